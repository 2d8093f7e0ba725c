/- A contract that holds whatever the heap is, as a walk of the row. -/
import Derived.Test.YtmfechcelhchcaaDoorSimRead
import Derived.RowKit3
import Derived.ReadAgain
import Derived.OpenShut
import Derived.JoinedCond
import Derived.Shelf.Vars
namespace Go.Sim
open Go

def g0 (w : World) : Ghost := { eta := fun _ => 0, bo := fun _ => 0, cap := fun _ => 0, sz := fun _ => 0, nxt := 0, fz := fun b => b < w.heap.size }
theorem HRel.g0 (w : World) : HRel (fun _ => none) (g0 w) w := ⟨(fun r o hr => by cases hr), (fun r r' o o' hr => by cases hr), (fun b hb => hb), (fun b ⟨r, hr, _⟩ => by cases hr)⟩

/-- nothing old has changed -/
structure Old (w w' : World) : Prop where
  keep : ∀ b, b < w.heap.size → w'.heap[b]? = w.heap[b]?
  os : w'.os = w.os
  output : w'.output = w.output

theorem PCalls.law {P : PG} {f : Nat} {as : List AVal} (hp : PCalls P f as (.bool true)) {w : World} {vs : Array Value} (GR : GRel P.gl (g0 w) w) (V : VRelL (g0 w) w vs as) :
    Calls P f vs w fun e w' => e = .returned (.bool true) ∧ Old w w' := by
  refine ((hp _).2 (Sim.g0 w) w vs (HRel.g0 w) GR V).mono fun e w' ⟨v, r, h', g', he, ⟨hr, _⟩, _, Vr, S⟩ => ?_
  subst hr he
  rw [Vr.bool_inv]
  exact ⟨rfl, S.keep, S.os, S.output⟩

/-- a contract by another road: of what is not read by its code here -/
theorem PCalls.ofRun {P : PG} {f : Nat} {as : List AVal} {r : AVal} (hc : Callable P.p f)
    (h : ∀ (g : Ghost) (w : World) (vs : Array Value), GRel P.gl g w → VRelL g w vs as → Calls P.p f vs w fun e w' => ∃ v, e = .returned v ∧ w' = w ∧ VRel g w v r) : PCalls P f as r :=
  fun h0 => ⟨hc, fun g w vs H GR V => (h g w vs GR V).mono fun e w' ⟨v, he, hw, hv⟩ => by
    subst hw; exact ⟨v, r, h0, g, he, ⟨rfl, rfl⟩, H, hv, GS.refl g _⟩⟩
theorem VRelL.one_inv {g : Ghost} {w : World} {vs : Array Value} {a : AVal} (V : VRelL g w vs [a]) : ∃ v, vs = #[v] ∧ VRel g w v a := by
  obtain ⟨hs, hv⟩ := V
  obtain ⟨v, rfl⟩ := Array.size_eq_one_iff.1 hs
  exact ⟨v, rfl, hv 0 v a rfl rfl⟩
theorem VRelL.two_inv {g : Ghost} {w : World} {vs : Array Value} {a b : AVal} (V : VRelL g w vs [a, b]) : ∃ u v, vs = #[u, v] ∧ VRel g w u a ∧ VRel g w v b := by
  obtain ⟨hs, hv⟩ := V
  obtain ⟨l⟩ := vs
  match l, hs with
  | [u, v], _ => exact ⟨u, v, rfl, hv 0 u a rfl rfl, hv 1 v b rfl rfl⟩
/-- a variable of the library's that holds some integer -/
theorem GRel.int {G : Glob} {g : Ghost} {w : World} {b : Nat} {k : IntKind} {m : Int} (GR : GRel G g w) (hG : G b = .pin [.int k m]) : w.cell? ⟨b, 0, none⟩ = some (.int k m) := by
  have h := (GR b).2
  rw [hG] at h
  obtain ⟨ad, he, _, _, hc⟩ := h.pin_inv
  cases he
  obtain ⟨u, h1, _, h3⟩ := hc 0 _ rfl
  rw [h3.int_inv'] at h1
  simpa [Addr.add] using h1
theorem VRel.pinInt {w : World} {b : Nat} {k : IntKind} {m : Int} (h : w.cell? ⟨b, 0, none⟩ = some (.int k m)) : VRel (g0 w) w (.pointer (some ⟨b, 0, none⟩)) (.pin [.int k m]) := by
  refine .pin ⟨b, 0, none⟩ _ (fun _ => .int k m) rfl ?_ (fun j a hj => ?_) (fun j a hj => rfl) (fun j a hj => ?_)
  · show b < w.heap.size
    unfold World.cell? at h
    split at h
    · rename_i c _ _ hc
      exact (Array.getElem?_eq_some_iff.1 hc).1
    · cases h
  · cases j with
    | zero => simpa [Addr.add] using h
    | succ j => simp at hj
  · cases j with
    | zero => simp at hj; subst hj; exact .int k m
    | succ j => simp at hj

section
variable {H : Type} {enc : TypeId × Value → H}
/-- the kit's wrap of a row with a condition, the world's shape kept -/
theorem returns_of_cond_shaped {a : Assume} {C : Checked} {os : Os} {f : FuncId} {fn : Func} {s : OpenSpec} {k : (H : Type) → List (DataW H) → Bool} (hk : s.cond = some k) {F : Stop.Interp} {conds : List PathCond} {apart fresh handsOn again : Bool}
    (own : ownKnob C.prog.godebug = none) (started : os.Started) (noInit : C.prog.inits.idxOf? f = none) (hfn : C.prog.funcs[f]? = some fn)
    (witness : ∃ (w : World) (tape : Tape) (i : Input), w.os = os ∧ (w.forCall tape i).Shaped C.prog ∧ i.vars = [] ∧ Input.okWide C.prog (w.forCall tape i) .any w.heap.size f i ∧
      s.pre6 enc C.prog fn conds apart (w.forCall tape i).memory i.args ∧ a.holds C.prog (lone (Frame.enter C.prog f i.args .normal) [] (w.forCall tape i)))
    (contract : ∀ (W : World) (base : Nat) (args : Array Value) (ds gs : List (DataW H)) (before : List MemPlace), W.ShapedOpen C.prog →
      (∀ (j : Nat) t v, fn.params[j]? = some t → args[j]? = some v → Value.okWide C.prog W .any base t v) →
      DataW.Whole enc C.prog fn.params.toList s.vars apart W args.toList ds gs before → k H (ds ++ gs) = true →
      a.holds C.prog (lone (Frame.enter C.prog f args .normal) [] W) →
      Calls C.prog f args W fun e W' => ∃ v, e = .returned v ∧ (s.at F).post enc C.prog fn apart fresh handsOn again W args v W') :
    ReturnsInHanded a C os f .any (s.pre6 enc C.prog fn conds apart) ((s.at F).post enc C.prog fn apart fresh handsOn again) := by
  refine returnsInHanded_of_calls own started noInit witness ?_
  intro w tape i _ hsh _ hok hpre hholds
  obtain ⟨_, _, _, fn', hfn', _, _, _, _, hval⟩ := hok
  have e : fn' = fn := Option.some.inj (hfn'.symm.trans hfn)
  subst e
  obtain ⟨ds, gs, before, hw, hc, hkk⟩ := (OpenSpec.pre_some hk conds apart _ _).1 hpre.1
  have hw' := DataW.Whole.of_heap (w' := w.forCall tape i) (by rfl) hw
  refine (contract (w.forCall tape i) w.heap.size i.args ds gs before hsh hval hw' hkk hholds).mono fun e W' ⟨v, he, hp⟩ => ?_
  subst he
  exact ChangeSpec.post_blind hp
end

section
variable {H : Type} {enc : TypeId × Value → H} {P : Program} {w w' : World}
theorem Old.sameAt (O : Old w w') {p : MemPlace} (hp : p.block < w.heap.size) : w.sameAt w' p := by
  cases p with
  | cell b off => exact World.cell?_of_block (O.keep b hp)
  | map b => exact O.keep b hp
theorem trodAll_old (O : Old w w') {base : Nat} {spare : Nat → Bool} {held : Bool} : ∀ {ts : List TypeId} {vs : List Value} {ds : List (DataW H)} {ps : List MemPlace}, DataW.TrodAll enc P w base spare held ts vs ds ps → DataW.TrodAll enc P w' base spare held ts vs ds ps
  | [], [], [], _, h => h
  | _ :: _, _ :: _, _ :: _, _, ⟨p, q, ⟨n, h1⟩, h2, e⟩ => ⟨p, q, ⟨n, DataW.trod_carry n _ _ _ h1 fun x hx => O.sameAt (DataW.trod_lt n _ _ _ h1 x hx)⟩, trodAll_old O h2, e⟩
theorem law_post {f : Func} {s : ChangeSpec} {args : Array Value} {ds : List (DataW H)} {before : List MemPlace} {tb : TypeId} (O : Old w w')
    (hW : DataW.Whole enc P f.params.toList s.vars false w args.toList ds [] before) (hv : s.vars = [])
    (h1 : (s.fn H (ds ++ [])).results = [.lit (.bool true)]) (h2 : (s.fn H (ds ++ [])).args = ds) (h3 : (s.fn H (ds ++ [])).vars = [])
    (hr : f.resultTypes = #[tb]) (htb : P.underlying tb = some .bool) (hl : laidOutB P = true) (hm : mapsRowed P = true) (hs : ((List.range P.types.size).all fun t => match P.underlying t with | some (.slice e) => decide (0 < P.cellsOf e) | _ => true) = true)
    (hT : ∀ t ∈ f.params.toList, t < P.types.size) : s.post enc P f false true false false w args (.bool true) w' := by
  obtain ⟨p, q, hA, hV, rfl, _, _⟩ := id hW
  rw [hv] at hV
  have hq : q = [] := by cases q with | nil => rfl | cons _ _ => simp [DataW.TrodVars] at hV
  subst hq
  refine ⟨ds, [], _, [], p, [], hW, ?_, ?_, ?_, ?_, fun h => by cases h⟩
  · rw [h1, hr]
    exact ⟨[], [], ⟨1, by simp [DataW.trod, Value.cells, htb]⟩, rfl, rfl⟩
  · rw [h2]
    refine trodAll_old O (DataW.TrodAll.respare (kids_rows hl hm) (fun t e ht => slices_full_of P hs t e ht) hT hA fun x hx => ?_)
    simpa using hA.lt x hx
  · rw [h3, hv]; rfl
  · exact World.keptBut_mono (fun _ h => h.elim) (World.keptBut_none_iff.2 ⟨O.os, O.output, O.keep⟩)
/-- an argument that is one cell -/
theorem arg_one {r : Reach} {base : Nat} {t : TypeId} {v : Value} {a : AVal} {d : TypeDesc} (hu : P.underlying t = some d) (hd : match d with | .slice _ | .int _ | .bool | .string => True | _ => False) (hv : Value.okWide P w r base t v) (h : CellsR w v.cells.toList [a]) : VRel (g0 w) w v a := by
  have hc : v.cells = #[v] := by
    unfold Value.okWide at hv
    cases d <;> simp at hd <;> simp only [hu, Cell.okWide, Cell.ok] at hv <;> cases v <;> first | rfl | (simp at hv)
  rw [hc] at h
  exact (h.2 (g0 w) (fun _ h => h) 0 v a rfl rfl).2
/-- .. a struct -/
theorem arg_agg {r : Reach} {base : Nat} {t : TypeId} {v : Value} {as : List AVal} {fs : Array Field} (hu : P.underlying t = some (.struct fs)) (hv : Value.okWide P w r base t v) (h : CellsR w v.cells.toList as) : VRel (g0 w) w v (.agg as) := by
  unfold Value.okWide at hv
  simp only [hu] at hv
  obtain ⟨cs, rfl, _⟩ := hv
  have hc : (Value.agg cs).cells = cs := rfl
  rw [hc] at h
  refine .agg cs as (by simpa using h.1) (fun j u hj => ?_) fun j u c hj hc => (h.2 (g0 w) (fun _ h => h) j u c (by simpa using hj) hc).2
  have hjl : j < as.length := by rw [← h.1]; simpa using (Array.getElem?_eq_some_iff.1 hj).1
  exact (h.2 (g0 w) (fun _ h => h) j u _ (by simpa using hj) (List.getElem?_eq_getElem hjl)).1
theorem VRelL.two {g : Ghost} {u v : Value} {a b : AVal} (h1 : VRel g w u a) (h2 : VRel g w v b) : VRelL g w #[u, v] [a, b] := by
  refine ⟨rfl, fun j x c hx hc => ?_⟩
  match j with
  | 0 => simp at hx hc; subst hx hc; exact h1
  | 1 => simp at hx hc; subst hx hc; exact h2
  | j + 2 => simp at hx
inductive VAll (g : Ghost) (w : World) : List Value → List AVal → Prop
  | nil : VAll g w [] []
  | cons {v : Value} {a : AVal} {vs : List Value} {as : List AVal} (h : VRel g w v a) (t : VAll g w vs as) : VAll g w (v :: vs) (a :: as)
theorem VAll.rel {g : Ghost} {w : World} {vs : List Value} {as : List AVal} (h : VAll g w vs as) : VRelL g w vs.toArray as := by
  induction h with
  | nil => exact ⟨rfl, fun j u a hu => by simp at hu⟩
  | cons h t ih =>
    refine ⟨by simpa using ih.1, fun j u a hu ha => ?_⟩
    cases j with
    | zero => simp at hu ha; subst hu ha; exact h
    | succ j => exact ih.2 j u a (by simpa using hu) (by simpa using ha)
end
end Go.Sim
