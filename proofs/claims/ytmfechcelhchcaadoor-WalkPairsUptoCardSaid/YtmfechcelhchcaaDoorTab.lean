/- Package-level variables of Go's library: what their pointers stand for; contracts of the shelf that only keep what was there. -/
import Derived.Test.YtmfechcelhchcaaDoorLst
import Derived.Test.YtmfechcelhchcaaDoorSimLaw
import Derived.Lib.LaidU8T
import Derived.PinnedBridge
import Derived.Shelf.Vars
import Derived.Below
set_option linter.unusedSimpArgs false
set_option linter.unusedVariables false
namespace Go.Proofs.K
open Go Go.Sim Go.Proofs
variable {G : Glob}

def intsA (k : IntKind) (l : List Int) : List AVal := l.map fun x => .int k x
def firstL : List Int := (List.range 256).map fun c => (Lib.firstT c : Int)
def acceptL : List Int := (List.range 32).map fun i => if i % 2 = 0 then (Lib.accLo (i / 2) : Int) else Lib.accHi (i / 2)
theorem firstL_at (c : Nat) (h : c < 256) : firstL[c]? = some (Lib.firstT c : Int) := by simp [firstL, h]
theorem acceptL_lo (i : Nat) (h : i < 16) : acceptL[2 * i]? = some (Lib.accLo i : Int) := by
  have : 2 * i < 32 := by omega
  simp [acceptL, this]
theorem acceptL_hi (i : Nat) (h : i < 16) : acceptL[2 * i + 1]? = some (Lib.accHi i : Int) := by
  have h1 : 2 * i + 1 < 32 := by omega
  have h2 : (2 * i + 1) / 2 = i := by omega
  have h3 : (2 * i + 1) % 2 = 1 := by omega
  simp [acceptL, h1, h2, h3]
theorem grel_ints {g : Ghost} {w : World} {b : Nat} {k : IntKind} {l : List Int} (GR : GRel G g w) (hG : G b = .pin (intsA k l)) (j : Nat) (x : Int) (hj : l[j]? = some x) : w.cell? ⟨b, j, none⟩ = some (.int k x) := by
  have h := (GR b).2
  rw [hG] at h
  obtain ⟨ad, he, _, _, hc⟩ := h.pin_inv
  cases he
  obtain ⟨u, h1, _, h3⟩ := hc j (.int k x) (by rw [intsA, List.getElem?_map, hj]; rfl)
  rw [h3.int_inv'] at h1
  have e : Addr.add ⟨b, 0, none⟩ j = ⟨b, j, none⟩ := by unfold Addr.add; split <;> simp_all
  rwa [e] at h1
theorem vrel_ints {w : World} {b : Nat} {k : IntKind} {l : List Int} (hl : l ≠ []) (h : ∀ (j : Nat) (x : Int), l[j]? = some x → w.cell? ⟨b, j, none⟩ = some (.int k x)) : VRel (g0 w) w (.pointer (some ⟨b, 0, none⟩)) (.pin (intsA k l)) := by
  have e : ∀ j, Addr.add ⟨b, 0, none⟩ j = ⟨b, j, none⟩ := fun j => by unfold Addr.add; split <;> simp_all
  refine VRel.pin_mk rfl ?_ fun j a hj => ?_
  · show b < w.heap.size
    obtain ⟨x, r, rfl⟩ := List.exists_cons_of_ne_nil hl
    have h := h 0 x rfl
    unfold World.cell? at h
    split at h
    · rename_i c _ _ hc
      exact (Array.getElem?_eq_some_iff.1 hc).1
    · cases h
  · rw [intsA, List.getElem?_map, Option.map_eq_some_iff] at hj
    obtain ⟨x, hx, rfl⟩ := hj
    exact ⟨.int k x, by rw [e]; exact h j x hx, rfl, .int k x⟩
theorem dat_ints (k : IntKind) (l : List Int) : Dat (.pin (intsA k l)) := .pin _ fun c hc => by
  obtain ⟨x, _, rfl⟩ := List.mem_map.1 hc
  exact .int k x
/-- a contract of the shelf by which what was there is kept -/
theorem ofBelow {P : PG} {f : Nat} {ls : List AVal} {r : AVal} (hc : Callable P.p f)
    (h : ∀ (g : Ghost) (w : World) (vs : Array Value), GRel P.gl g w → VRelL g w vs ls → Calls P.p f vs w fun e w' => ∃ v, e = .returned v ∧ RowKit.Below w.heap.size w w' ∧ ∀ g' w', VRel g' w' v r) : PCalls P f ls r :=
  fun h0 => ⟨hc, fun g w vs H GR V => (h g w vs GR V).mono fun e w' ⟨v, he, hw, hv⟩ => by
    obtain ⟨S, H'⟩ := H.ext (w' := w') (fun b hb => hw.block b hb) hw.os hw.tape hw.output hw.size
    exact ⟨v, r, h0, g, he, ⟨rfl, rfl⟩, H', hv g w', S⟩⟩

/-! ## utf8's tables -/
def TabsOK (G : Glob) : Prop := G 1 = .pin (intsA .u8 firstL) ∧ G 2 = .pin (intsA .u8 acceptL)
theorem tabs_of {g : Ghost} {w : World} (GR : GRel G g w) (hG : TabsOK G) : Lib.Utf8Tabs 1 2 w :=
  ⟨fun c hc => grel_ints GR hG.1 c _ (firstL_at c hc), fun i hi => ⟨grel_ints GR hG.2 (2 * i) _ (acceptL_lo i hi), grel_ints GR hG.2 (2 * i + 1) _ (acceptL_hi i hi)⟩⟩
end Go.Proofs.K
