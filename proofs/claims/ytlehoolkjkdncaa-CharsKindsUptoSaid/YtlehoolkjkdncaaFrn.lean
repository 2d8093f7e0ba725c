/- chars.From and the document's. -/
import Derived.Test.YtlehoolkjkdncaaFrm
set_option linter.unusedSimpArgs false
set_option linter.unusedVariables false
namespace Go.Proofs.K
open Go Go.Sim Go.Proofs
variable {G : Glob}

def pairM : List Int → List Int
  | a :: b :: r => if a / 1024 = 54 ∧ b / 1024 = 55 then (65536 + a % 1024 * 1024 + b % 1024) :: pairM r else a :: pairM (b :: r)
  | [a] => [a]
  | [] => []
theorem drop_cons' {l : List Int} {k : Nat} (h : k < l.length) : l.drop k = nth l k :: l.drop (k + 1) := by
  rw [← List.getElem_cons_drop h]; congr 1
  have := nth_some h
  rw [List.getElem?_eq_getElem h] at this; exact Option.some.inj this
theorem pairM_two {l : List Int} {k : Nat} (h : k + 1 < l.length) (h1 : nth l k / 1024 = 54) (h2 : nth l (k + 1) / 1024 = 55) : pairM (l.drop k) = (65536 + nth l k % 1024 * 1024 + nth l (k + 1) % 1024) :: pairM (l.drop (k + 2)) := by
  rw [drop_cons' (by omega), drop_cons' h, pairM, if_pos ⟨h1, h2⟩]
theorem pairM_one {l : List Int} {k : Nat} (h : k < l.length) (h1 : ¬ (k + 1 < l.length ∧ nth l k / 1024 = 54 ∧ nth l (k + 1) / 1024 = 55)) : pairM (l.drop k) = nth l k :: pairM (l.drop (k + 1)) := by
  by_cases h2 : k + 1 < l.length
  · rw [drop_cons' h, drop_cons' h2, pairM, if_neg (fun hh => h1 ⟨h2, hh⟩)]
  · have : l.drop (k + 1) = [] := List.drop_eq_nil_of_le (by omega)
    rw [drop_cons' h, this]; rfl
theorem pair_val {a b : Int} (h1 : 0 ≤ a) (h2 : a < 65536) (h3 : 0 ≤ b) (h4 : b < 65536) :
    IntKind.i32.wrap (IntKind.i32.wrap (65536 + IntKind.i32.wrap (bitF .and .i32 a 1023 * 2 ^ min (10 : Int).toNat IntKind.i32.bits)) + bitF .and .i32 b 1023) = 65536 + a % 1024 * 1024 + b % 1024 := by
  have e : (2 : Int) ^ min (10 : Int).toNat IntKind.i32.bits = 1024 := rfl
  have e1 : bitF .and .i32 a 1023 = a % 1024 := bits_mask .i32 31 (by decide) wraps_i32 10 (by decide) a h1 (by omega)
  have e2 : bitF .and .i32 b 1023 = b % 1024 := bits_mask .i32 31 (by decide) wraps_i32 10 (by decide) b h3 (by omega)
  rw [e, e1, e2]
  simp only [IntKind.wrap_i32]
  omega
theorem shr10 {a : Int} : a.fdiv (2 ^ min (10 : Int).toNat IntKind.i32.bits) = a / 1024 := Int.fdiv_eq_ediv_of_nonneg _ (by decide)
def c81 : SFun := ⟨(.seq (.reg [⟨(some 2), (.mv (.c .emp)), none⟩]) (.seq (.reg [⟨(some 3), (.mv (.c .emp)), none⟩]) (.seq (.seq (.reg [⟨(some 4), (.mv (.c (.int .i64 (0)))), none⟩]) (.block 0 (.loop (.seq (.seq (.reg [⟨(some 5), (.mv (.t 4)), none⟩, ⟨(some 6), (.mv (.t 0)), none⟩, ⟨(some 7), (.len (.t 6)), none⟩, ⟨(some 8), (.bin .lss (.t 5) (.t 7)), none⟩]) (.cond (.t 8) .skip (.exit 0))) (.seq (.block 1 (.seq (.seq (.reg [⟨(some 11), (.mv (.t 4)), none⟩, ⟨(some 12), (.bin .add (.t 11) (.c (.int .i64 (1)))), none⟩, ⟨(some 13), (.mv (.t 0)), none⟩, ⟨(some 14), (.len (.t 13)), none⟩, ⟨(some 15), (.bin .lss (.t 12) (.t 14)), none⟩, ⟨(some 16), (.mv (.t 15)), none⟩, ⟨(some 17), (.mv (.t 0)), (some (16, true))⟩, ⟨(some 18), (.mv (.t 4)), (some (16, true))⟩, ⟨(some 19), (.idxA 1 (.t 17) (.t 18)), (some (16, true))⟩, ⟨(some 20), (.ld 1 false (.t 19)), (some (16, true))⟩, ⟨(some 21), (.bin .shr (.t 20) (.c (.int .u64 (10)))), (some (16, true))⟩, ⟨(some 22), (.bin .eql (.t 21) (.c (.int .i32 (54)))), (some (16, true))⟩, ⟨(some 23), (.pick (.t 16) (.t 22) (.c (.bool false))), none⟩, ⟨(some 24), (.mv (.t 23)), none⟩, ⟨(some 25), (.mv (.t 0)), (some (24, true))⟩, ⟨(some 26), (.mv (.t 4)), (some (24, true))⟩, ⟨(some 27), (.bin .add (.t 26) (.c (.int .i64 (1)))), (some (24, true))⟩, ⟨(some 28), (.idxA 1 (.t 25) (.t 27)), (some (24, true))⟩, ⟨(some 29), (.ld 1 false (.t 28)), (some (24, true))⟩, ⟨(some 30), (.bin .shr (.t 29) (.c (.int .u64 (10)))), (some (24, true))⟩, ⟨(some 31), (.bin .eql (.t 30) (.c (.int .i32 (55)))), (some (24, true))⟩, ⟨(some 32), (.pick (.t 24) (.t 31) (.c (.bool false))), none⟩]) (.cond (.t 32) (.seq (.dreg [(⟨(some 33), (.mv (.t 3)), none⟩, false), (⟨(some 34), (.mv (.t 0)), none⟩, false), (⟨(some 35), (.mv (.t 4)), none⟩, false), (⟨(some 36), (.idxA 1 (.t 34) (.t 35)), none⟩, false), (⟨(some 37), (.ld 1 false (.t 36)), none⟩, false), (⟨(some 38), (.bin .and (.t 37) (.c (.int .i32 (1023)))), none⟩, false), (⟨(some 39), (.bin .shl (.t 38) (.c (.int .u64 (10)))), none⟩, false), (⟨(some 40), (.bin .add (.c (.int .i32 (65536))) (.t 39)), none⟩, false), (⟨(some 41), (.mv (.t 0)), none⟩, false), (⟨(some 42), (.mv (.t 4)), none⟩, false), (⟨(some 43), (.bin .add (.t 42) (.c (.int .i64 (1)))), none⟩, false), (⟨(some 44), (.idxA 1 (.t 41) (.t 43)), none⟩, false), (⟨(some 45), (.ld 1 false (.t 44)), none⟩, false), (⟨(some 46), (.bin .and (.t 45) (.c (.int .i32 (1023)))), none⟩, false), (⟨(some 47), (.bin .add (.t 40) (.t 46)), none⟩, false), (⟨(some 48), (.bldF 21 1 [(.t 47)]), none⟩, false), (⟨(some 49), (.app 21 1 4 (.t 33) (.t 48)), none⟩, true), (⟨(some 3), (.mv (.t 49)), none⟩, true)]) (.seq (.reg [⟨(some 50), (.mv (.t 4)), none⟩, ⟨(some 51), (.bin .add (.t 50) (.c (.int .i64 (1)))), none⟩, ⟨(some 4), (.mv (.t 51)), none⟩]) (.exit 1))) .skip)) (.reg [⟨(some 52), (.mv (.t 3)), none⟩, ⟨(some 53), (.mv (.t 0)), none⟩, ⟨(some 54), (.mv (.t 4)), none⟩, ⟨(some 55), (.idxA 1 (.t 53) (.t 54)), none⟩, ⟨(some 56), (.ld 1 false (.t 55)), none⟩, ⟨(some 57), (.bldF 21 1 [(.t 56)]), none⟩, ⟨(some 58), (.app 21 1 4 (.t 52) (.t 57)), none⟩, ⟨(some 3), (.mv (.t 58)), none⟩]))) (.reg [⟨(some 9), (.mv (.t 4)), none⟩, ⟨(some 10), (.bin .add (.t 9) (.c (.int .i64 (1)))), none⟩, ⟨(some 4), (.mv (.t 10)), none⟩])))))) (.seq (.reg [⟨(some 59), (.mv (.t 3)), none⟩, ⟨(some 2), (.mv (.t 59)), none⟩]) .ret)))), [(.tmp 2)]⟩
theorem hc81 : toSF Try.prog {} Try.f81 = some c81 := by kernel_rfl
theorem hn81 : (Try.f81.name == "runtime.NumGoroutine") = false := by kernel_rfl
theorem paired_own {h : Heap} (l : List Int) (hl : l.length ≤ 1073741824) (hr : ∀ x ∈ l, 0 ≤ x ∧ x < 65536) : DCalls (Pg G) 81 [sl eRune l] h (AccK h Ti 1 ((pairM l).map eRune)) := by
  refine dcalls_of_vc Try.func81 hn81 hc81 (by rw [Try.ntmps81]; simp) (by rw [Try.ntmps81]; decide) ?_
  simp -dsimp -implicitDefEqProofs (disch := omega) only [↓vcOps_sp 16, ↓vcD_sp 16, ↓vcOps_sp 24, ↓vcD_sp 24, VCA, pg_gl, ↓upd_none, Nat.reduceEqDiff, Nat.reduceBEq, Nat.reduceAdd, Nat.reduceSub, Nat.reduceMul, Nat.reduceLT, Nat.reduceLeDiff, ↓reduceIte, reduceCtorEq, rsOf, rootsOf, SOp.rd, SI.rd, SX.rd, rdL, rdO, rdP, okParts, eqCells, okEqCells, fillA, okFill, setAt, implies_true, forall_const, forall_eq, ne_eq, exists_eq_right_right, exists_eq_right, exists_eq_left, exists_eq_left', eRune, c81]
  refine LoopVC.intro (fun m e h' => ∃ (k : Nat) (d : List Int), m = l.length - k ∧ k ≤ l.length ∧ d.length ≤ k ∧ e 0 = sl eRune l ∧ e 4 = aInt k ∧ Acc h Ti 1 (d.map eRune) (e 3) h' ∧ Sub h h' ∧ d ++ pairM (l.drop k) = pairM l) _ ⟨0, [], rfl, by omega, by simp, rfl, rfl, Acc.nil, Sub.refl _, rfl⟩ ?_
  rintro m e h' ⟨k, d, rfl, hk, hdl, he0, he4, A, S, hC⟩
  generalize ea : e 3 = a at A
  have tk : ((k : Int) + 1).toNat = k + 1 := by omega
  simp -dsimp -implicitDefEqProofs (disch := omega) only [↓vcOps_sp 16, ↓vcD_sp 16, ↓vcOps_sp 24, ↓vcD_sp 24, VCA, pg_gl, ↓upd_none, Nat.reduceEqDiff, Nat.reduceBEq, Nat.reduceAdd, Nat.reduceSub, Nat.reduceMul, Nat.reduceLT, Nat.reduceLeDiff, ↓reduceIte, reduceCtorEq, rsOf, rootsOf, SOp.rd, SI.rd, SX.rd, rdL, rdO, rdP, okParts, eqCells, okEqCells, fillA, okFill, setAt, implies_true, forall_const, forall_eq, ne_eq, exists_eq_right_right, exists_eq_right, exists_eq_left, exists_eq_left', eRune, he0, he4, ea]
  repeat' (first | (refine Br.dec (fun _ => ?_) (fun _ => ?_) <;> try (exfalso; omega)) | (refine Br.eq (fun _ => ?_) (fun _ => ?_) <;> try (exfalso; omega)) | (refine Br.ne (fun _ => ?_) (fun _ => ?_) <;> try (exfalso; omega)) | refine Br.intro (fun _ => ?_) (fun _ => ?_) | (refine A.app S (by simp; omega) (by simp; omega) (fun a' h3 A' S' => ?_)) | (with_reducible refine And.intro ?_ ?_; · omega) | simp -dsimp -implicitDefEqProofs (disch := omega) only [↓vcOps_sp 16, ↓vcD_sp 16, ↓vcOps_sp 24, ↓vcD_sp 24, VCA, pg_gl, ↓upd_none, Nat.reduceEqDiff, Nat.reduceBEq, Nat.reduceAdd, Nat.reduceSub, Nat.reduceMul, Nat.reduceLT, Nat.reduceLeDiff, ↓reduceIte, reduceCtorEq, rsOf, rootsOf, SOp.rd, SI.rd, SX.rd, rdL, rdO, rdP, okParts, eqCells, okEqCells, fillA, okFill, setAt, implies_true, forall_const, forall_eq, ne_eq, exists_eq_right_right, exists_eq_right, exists_eq_left, exists_eq_left', eRune, he0, he4, ea, shr10, tk])
  · have q1 := hr _ (nth_mem' (l := l) (k := k) (by omega))
    have q2 := hr _ (nth_mem' (l := l) (k := k + 1) (by omega))
    refine ⟨_, ?_, k + 2, d ++ [65536 + nth l k % 1024 * 1024 + nth l (k + 1) % 1024], rfl, by omega, by simp; omega, by omega, ?_, S', ?_⟩
    · omega
    · rw [List.map_append]
      exact Eq.mp (congrArg (fun z => Acc h Ti 1 (d.map eRune ++ [[.int .i32 z]]) a' h3) (pair_val q1.1 q1.2 q2.1 q2.2)) A'
    · rw [List.append_assoc, List.singleton_append, ← pairM_two (by omega) (by assumption) (by assumption)]; exact hC
  all_goals first
    | (refine ⟨_, ?_, k + 1, d ++ [nth l k], rfl, by omega, by simp; omega, by omega, ?_, S', ?_⟩
       · omega
       · rw [List.map_append]; exact A'
       · rw [List.append_assoc, List.singleton_append, ← pairM_one (by omega) (by rintro ⟨_, _, _⟩; omega)]; exact hC)
    | skip
  have : k = l.length := by omega
  subst this
  have hd : d = pairM l := by rw [← hC, List.drop_length]; simp [pairM]
  subst hd
  exact ⟨_, Sub.refl _, A, S⟩
def latM (s : List UInt8) : List Int := s.map fun b => (b.toNat : Int)
theorem lat_snoc {s : List UInt8} {k : Nat} (h : k < s.length) : latM (s.take (k + 1)) = latM (s.take k) ++ [bt s k] := by
  unfold latM bt
  rw [List.take_add_one, List.getElem?_eq_getElem h, List.getD_eq_getElem?_getD, List.getElem?_eq_getElem h, List.map_append]
  rfl
def fromL (s : List UInt8) (kind : Int) : List Int :=
  if kind = 2 ∨ kind = 3 then pairM (unitsM s (kind - 2).toNat) ++ (if s.length % 2 = 1 then [65533] else [])
  else if kind = 4 then latM s else decD s
def fromM (s : List UInt8) (kind : Int) : List UInt8 × Int := if kind < 0 ∨ 4 < kind then ([], 1) else if 4000 < s.length then ([], 2) else (encM (fromL s kind), 0)
theorem pairM_r (l : List Int) (h : ∀ x ∈ l, 0 ≤ x ∧ x < 65536) : ∀ n, l.length ≤ n → (pairM l).length ≤ l.length ∧ ∀ x ∈ pairM l, 0 ≤ x ∧ x < 1114112 := by
  intro n
  induction n generalizing l with
  | zero => intro hn; have : l = [] := List.length_eq_zero_iff.1 (by omega); subst this; simp [pairM]
  | succ n ih =>
    intro hn
    match l, h with
    | [], _ => simp [pairM]
    | [a], h => have := h a (by simp); simp [pairM]; omega
    | a :: b :: r, h =>
      have ha := h a (by simp)
      have hb := h b (by simp)
      simp only [List.length_cons] at hn
      unfold pairM
      split
      · have := ih r (fun x hx => h x (by simp [hx])) (by omega)
        refine ⟨by simp; omega, fun x hx => ?_⟩
        rcases List.mem_cons.1 hx with rfl | hx
        · omega
        · exact this.2 x hx
      · have := ih (b :: r) (fun x hx => h x (List.mem_cons_of_mem _ hx)) (by simp; omega)
        refine ⟨by simp at this ⊢; omega, fun x hx => ?_⟩
        rcases List.mem_cons.1 hx with rfl | hx
        · omega
        · exact this.2 x hx
theorem unitsM_r (s : List UInt8) (hi : Nat) : (unitsM s hi).length ≤ s.length ∧ ∀ x ∈ unitsM s hi, 0 ≤ x ∧ x < 65536 := by
  refine ⟨by simp [unitsM]; omega, fun x hx => ?_⟩
  obtain ⟨k, _, rfl⟩ := List.mem_map.1 hx
  exact unitM_r s hi k
theorem latM_r (s : List UInt8) : (latM s).length = s.length ∧ ∀ x ∈ latM s, 0 ≤ x ∧ x < 256 := by
  refine ⟨by simp [latM], fun x hx => ?_⟩
  obtain ⟨b, _, rfl⟩ := List.mem_map.1 hx
  have := b.toNat_lt; omega
theorem units_ok (s : List UInt8) (hi : Nat) (hh : hi ≤ 1) (hs : s.length ≤ 1073741824) : PCalls (Pg G) 82 [.str s, aInt hi] (sl eRune (unitsM s hi)) := PCalls.acc fun h => units_own s hi hh hs
def c46 : SFun := ⟨(.seq (.reg [⟨(some 4), (.mv (.c (.str []))), none⟩, ⟨(some 5), (.mv (.c (.int .i64 (0)))), none⟩]) (.seq (.block 0 (.seq (.reg [⟨(some 9), (.mv (.t 1)), none⟩, ⟨(some 10), (.bin .lss (.t 9) (.c (.int .i64 (0)))), none⟩, ⟨(some 11), (.mv (.t 10)), none⟩, ⟨(some 12), (.mv (.t 1)), (some (11, false))⟩, ⟨(some 13), (.bin .gtr (.t 12) (.c (.int .i64 (4)))), (some (11, false))⟩, ⟨(some 14), (.pick (.t 11) (.c (.bool true)) (.t 13)), none⟩, ⟨(some 8), (.mv (.t 14)), none⟩]) (.cond (.t 8) (.seq (.reg [⟨(some 4), (.mv (.c (.str []))), none⟩, ⟨(some 5), (.mv (.c (.int .i64 (1)))), none⟩]) .ret) (.seq (.reg [⟨(some 16), (.mv (.t 0)), none⟩, ⟨(some 17), (.lenS (.t 16)), none⟩, ⟨(some 18), (.bin .gtr (.t 17) (.c (.int .i64 (4000)))), none⟩, ⟨(some 15), (.mv (.t 18)), none⟩]) (.cond (.t 15) (.seq (.reg [⟨(some 4), (.mv (.c (.str []))), none⟩, ⟨(some 5), (.mv (.c (.int .i64 (2)))), none⟩]) .ret) .skip))))) (.seq (.reg [⟨(some 6), (.mv (.c .emp)), none⟩]) (.seq (.seq (.reg [⟨(some 19), (.mv (.t 1)), none⟩]) (.block 1 (.seq (.seq (.reg [⟨(some 23), (.bin .eql (.t 19) (.c (.int .i64 (2)))), none⟩, ⟨(some 22), (.mv (.t 23)), none⟩]) (.cond (.t 22) .skip (.reg [⟨(some 24), (.bin .eql (.t 19) (.c (.int .i64 (3)))), none⟩, ⟨(some 22), (.mv (.t 24)), none⟩]))) (.cond (.t 22) (.seq (.reg [⟨(some 25), (.mv (.t 0)), none⟩, ⟨(some 26), (.mv (.t 1)), none⟩, ⟨(some 27), (.bin .sub (.t 26) (.c (.int .i64 (2)))), none⟩, ⟨(some 28), (.pcall 82 [(.t 25), (.t 27)]), none⟩, ⟨(some 29), (.call (.c (.fn 81 [] [])) [(.t 28)]), none⟩, ⟨(some 6), (.mv (.t 29)), none⟩]) (.seq (.reg [⟨(some 30), (.mv (.t 0)), none⟩, ⟨(some 31), (.lenS (.t 30)), none⟩, ⟨(some 32), (.bin .rem (.t 31) (.c (.int .i64 (2)))), none⟩, ⟨(some 33), (.bin .eql (.t 32) (.c (.int .i64 (1)))), none⟩]) (.cond (.t 33) (.reg [⟨(some 34), (.mv (.t 6)), none⟩, ⟨(some 35), (.bldF 21 1 [(.c (.int .i32 (65533)))]), none⟩, ⟨(some 36), (.app 21 1 4 (.t 34) (.t 35)), none⟩, ⟨(some 6), (.mv (.t 36)), none⟩]) .skip))) (.seq (.reg [⟨(some 38), (.bin .eql (.t 19) (.c (.int .i64 (4)))), none⟩, ⟨(some 37), (.mv (.t 38)), none⟩]) (.cond (.t 37) (.seq (.reg [⟨(some 39), (.mv (.t 0)), none⟩, ⟨(some 40), (.lenS (.t 39)), none⟩, ⟨(some 41), (.mv (.c (.int .i64 (0)))), none⟩]) (.block 2 (.loop (.seq (.reg [⟨(some 42), (.bin .lss (.t 41) (.t 40)), none⟩]) (.seq (.cond (.t 42) .skip (.exit 2)) (.seq (.block 3 (.seq (.reg [⟨(some 43), (.mv (.t 41)), none⟩, ⟨(some 7), (.mv (.t 43)), none⟩]) (.reg [⟨(some 44), (.mv (.t 6)), none⟩, ⟨(some 45), (.mv (.t 0)), none⟩, ⟨(some 46), (.mv (.t 7)), none⟩, ⟨(some 47), (.idxS (.t 45) (.t 46)), none⟩, ⟨(some 48), (.cvi .i32 (.t 47)), none⟩, ⟨(some 49), (.bldF 21 1 [(.t 48)]), none⟩, ⟨(some 50), (.app 21 1 4 (.t 44) (.t 49)), none⟩, ⟨(some 6), (.mv (.t 50)), none⟩]))) (.reg [⟨(some 51), (.bin .add (.t 41) (.c (.int .i64 (1)))), none⟩, ⟨(some 41), (.mv (.t 51)), none⟩]))))))) (.reg [⟨(some 20), (.mv (.t 0)), none⟩, ⟨(some 21), (.pcall 58 [(.t 20)]), none⟩, ⟨(some 6), (.mv (.t 21)), none⟩]))))))) (.seq (.reg [⟨(some 52), (.mv (.t 6)), none⟩, ⟨(some 53), (.call (.c (.fn 83 [] [])) [(.t 52)]), none⟩, ⟨(some 4), (.mv (.t 53)), none⟩, ⟨(some 5), (.mv (.c (.int .i64 (0)))), none⟩]) .ret))))), [(.tmp 4), (.tmp 5)]⟩
theorem hc46 : toSF Try.prog {pure := [82, 58]} Try.f46 = some c46 := by kernel_rfl
theorem hn46 : (Try.f46.name == "runtime.NumGoroutine") = false := by kernel_rfl
theorem from_ok (s : List UInt8) (kind : Int) (hs : s.length ≤ 1048576) : PCalls (Pg G) 46 [.str s, aInt kind] (.tup [.str (fromM s kind).1, aInt (fromM s kind).2]) := fun h => by
  have hU : ∀ hi : Nat, hi ≤ 1 → PCalls (Pg G) 82 [.str s, aInt hi] (sl eRune (unitsM s hi)) := fun hi h => units_ok s hi h (by omega)
  have hu0 := hU 0 (by omega)
  have hu1 := hU 1 (by omega)
  have hD := I32_dec s _ (Nat.le_refl _)
  have hDl := decD_len s _ (Nat.le_refl _)
  have hE := encode_ok (G := G) (decD s) (fun x hx => by have := hD x hx; omega) (by omega)
  have fin2 : ∀ hi : Nat, hi ≤ 1 → ¬ 4000 < s.length → fromM s (hi + 2) = (encM (pairM (unitsM s hi) ++ (if s.length % 2 = 1 then [65533] else [])), 0) := fun hi h1 h2 => by
    unfold fromM
    rw [if_neg (by omega), if_neg h2, fromL, if_pos (by omega)]
    have : ((hi : Int) + 2 - 2).toNat = hi := by omega
    rw [this]
  rcases (by omega : kind < 0 ∨ 4 < kind ∨ kind = 0 ∨ kind = 1 ∨ (kind = (0 : Nat) + 2 ∨ kind = (1 : Nat) + 2) ∨ kind = 4) with hk | hk | rfl | rfl | hk | rfl
  · have e : fromM s kind = ([], 1) := if_pos (.inl hk)
    rw [e]
    refine dcalls_of_vc Try.func46 hn46 hc46 (by rw [Try.ntmps46]; simp) (by rw [Try.ntmps46]; decide) ?_
    simp -dsimp -implicitDefEqProofs (disch := omega) only [↓vcOps_sp 11, ↓vcD_sp 11, VCA, pg_gl, ↓upd_none, Nat.reduceEqDiff, Nat.reduceBEq, Nat.reduceAdd, Nat.reduceSub, Nat.reduceMul, Nat.reduceLT, Nat.reduceLeDiff, ↓reduceIte, reduceCtorEq, rsOf, rootsOf, SOp.rd, SI.rd, SX.rd, rdL, rdO, rdP, okParts, eqCells, okEqCells, fillA, okFill, setAt, implies_true, forall_const, forall_eq, ne_eq, exists_eq_right_right, exists_eq_right, exists_eq_left, exists_eq_left', eRune, c46]
    repeat' (first | (refine Br.dec (fun _ => ?_) (fun _ => ?_) <;> try (exfalso; omega)) | (refine Br.eq (fun _ => ?_) (fun _ => ?_) <;> try (exfalso; omega)) | (refine Br.ne (fun _ => ?_) (fun _ => ?_) <;> try (exfalso; omega)) | refine Br.intro (fun _ => ?_) (fun _ => ?_) | (with_reducible refine And.intro ?_ ?_; · omega) | simp -dsimp -implicitDefEqProofs (disch := omega) only [↓vcOps_sp 11, ↓vcD_sp 11, VCA, pg_gl, ↓upd_none, Nat.reduceEqDiff, Nat.reduceBEq, Nat.reduceAdd, Nat.reduceSub, Nat.reduceMul, Nat.reduceLT, Nat.reduceLeDiff, ↓reduceIte, reduceCtorEq, rsOf, rootsOf, SOp.rd, SI.rd, SX.rd, rdL, rdO, rdP, okParts, eqCells, okEqCells, fillA, okFill, setAt, implies_true, forall_const, forall_eq, ne_eq, exists_eq_right_right, exists_eq_right, exists_eq_left, exists_eq_left', eRune])
    exact Sub.refl _
  · have e : fromM s kind = ([], 1) := if_pos (.inr hk)
    rw [e]
    refine dcalls_of_vc Try.func46 hn46 hc46 (by rw [Try.ntmps46]; simp) (by rw [Try.ntmps46]; decide) ?_
    simp -dsimp -implicitDefEqProofs (disch := omega) only [↓vcOps_sp 11, ↓vcD_sp 11, VCA, pg_gl, ↓upd_none, Nat.reduceEqDiff, Nat.reduceBEq, Nat.reduceAdd, Nat.reduceSub, Nat.reduceMul, Nat.reduceLT, Nat.reduceLeDiff, ↓reduceIte, reduceCtorEq, rsOf, rootsOf, SOp.rd, SI.rd, SX.rd, rdL, rdO, rdP, okParts, eqCells, okEqCells, fillA, okFill, setAt, implies_true, forall_const, forall_eq, ne_eq, exists_eq_right_right, exists_eq_right, exists_eq_left, exists_eq_left', eRune, c46]
    repeat' (first | (refine Br.dec (fun _ => ?_) (fun _ => ?_) <;> try (exfalso; omega)) | (refine Br.eq (fun _ => ?_) (fun _ => ?_) <;> try (exfalso; omega)) | (refine Br.ne (fun _ => ?_) (fun _ => ?_) <;> try (exfalso; omega)) | refine Br.intro (fun _ => ?_) (fun _ => ?_) | (with_reducible refine And.intro ?_ ?_; · omega) | simp -dsimp -implicitDefEqProofs (disch := omega) only [↓vcOps_sp 11, ↓vcD_sp 11, VCA, pg_gl, ↓upd_none, Nat.reduceEqDiff, Nat.reduceBEq, Nat.reduceAdd, Nat.reduceSub, Nat.reduceMul, Nat.reduceLT, Nat.reduceLeDiff, ↓reduceIte, reduceCtorEq, rsOf, rootsOf, SOp.rd, SI.rd, SX.rd, rdL, rdO, rdP, okParts, eqCells, okEqCells, fillA, okFill, setAt, implies_true, forall_const, forall_eq, ne_eq, exists_eq_right_right, exists_eq_right, exists_eq_left, exists_eq_left', eRune])
    exact Sub.refl _
  · refine dcalls_of_vc Try.func46 hn46 hc46 (by rw [Try.ntmps46]; simp) (by rw [Try.ntmps46]; decide) ?_
    simp -dsimp -implicitDefEqProofs (disch := omega) only [↓vcOps_sp 11, ↓vcD_sp 11, VCA, pg_gl, ↓upd_none, Nat.reduceEqDiff, Nat.reduceBEq, Nat.reduceAdd, Nat.reduceSub, Nat.reduceMul, Nat.reduceLT, Nat.reduceLeDiff, ↓reduceIte, reduceCtorEq, rsOf, rootsOf, SOp.rd, SI.rd, SX.rd, rdL, rdO, rdP, okParts, eqCells, okEqCells, fillA, okFill, setAt, implies_true, forall_const, forall_eq, ne_eq, exists_eq_right_right, exists_eq_right, exists_eq_left, exists_eq_left', eRune, c46]
    repeat' (first | (refine Br.dec (fun _ => ?_) (fun _ => ?_) <;> try (exfalso; omega)) | (refine Br.eq (fun _ => ?_) (fun _ => ?_) <;> try (exfalso; omega)) | (refine Br.ne (fun _ => ?_) (fun _ => ?_) <;> try (exfalso; omega)) | refine Br.intro (fun _ => ?_) (fun _ => ?_) | (with_reducible apply pcallE.of; · exact decode_ok s (by omega)) | (with_reducible refine PCalls.of hE ?_) | (with_reducible refine And.intro ?_ ?_; · omega) | simp -dsimp -implicitDefEqProofs (disch := omega) only [↓vcOps_sp 11, ↓vcD_sp 11, VCA, pg_gl, ↓upd_none, Nat.reduceEqDiff, Nat.reduceBEq, Nat.reduceAdd, Nat.reduceSub, Nat.reduceMul, Nat.reduceLT, Nat.reduceLeDiff, ↓reduceIte, reduceCtorEq, rsOf, rootsOf, SOp.rd, SI.rd, SX.rd, rdL, rdO, rdP, okParts, eqCells, okEqCells, fillA, okFill, setAt, implies_true, forall_const, forall_eq, ne_eq, exists_eq_right_right, exists_eq_right, exists_eq_left, exists_eq_left', eRune])
    · rw [show fromM s 0 = ([], 2) from by unfold fromM; rw [if_neg (by omega), if_pos (by omega)]]
      exact ⟨Sub.refl _, rfl⟩
    · rw [show fromM s 0 = (encM (decD s), 0) from by unfold fromM fromL; rw [if_neg (by omega), if_neg (by omega), if_neg (by omega), if_neg (by omega)]]
      exact ⟨Sub.refl _, rfl⟩
  · refine dcalls_of_vc Try.func46 hn46 hc46 (by rw [Try.ntmps46]; simp) (by rw [Try.ntmps46]; decide) ?_
    simp -dsimp -implicitDefEqProofs (disch := omega) only [↓vcOps_sp 11, ↓vcD_sp 11, VCA, pg_gl, ↓upd_none, Nat.reduceEqDiff, Nat.reduceBEq, Nat.reduceAdd, Nat.reduceSub, Nat.reduceMul, Nat.reduceLT, Nat.reduceLeDiff, ↓reduceIte, reduceCtorEq, rsOf, rootsOf, SOp.rd, SI.rd, SX.rd, rdL, rdO, rdP, okParts, eqCells, okEqCells, fillA, okFill, setAt, implies_true, forall_const, forall_eq, ne_eq, exists_eq_right_right, exists_eq_right, exists_eq_left, exists_eq_left', eRune, c46]
    repeat' (first | (refine Br.dec (fun _ => ?_) (fun _ => ?_) <;> try (exfalso; omega)) | (refine Br.eq (fun _ => ?_) (fun _ => ?_) <;> try (exfalso; omega)) | (refine Br.ne (fun _ => ?_) (fun _ => ?_) <;> try (exfalso; omega)) | refine Br.intro (fun _ => ?_) (fun _ => ?_) | (with_reducible apply pcallE.of; · exact decode_ok s (by omega)) | (with_reducible refine PCalls.of hE ?_) | (with_reducible refine And.intro ?_ ?_; · omega) | simp -dsimp -implicitDefEqProofs (disch := omega) only [↓vcOps_sp 11, ↓vcD_sp 11, VCA, pg_gl, ↓upd_none, Nat.reduceEqDiff, Nat.reduceBEq, Nat.reduceAdd, Nat.reduceSub, Nat.reduceMul, Nat.reduceLT, Nat.reduceLeDiff, ↓reduceIte, reduceCtorEq, rsOf, rootsOf, SOp.rd, SI.rd, SX.rd, rdL, rdO, rdP, okParts, eqCells, okEqCells, fillA, okFill, setAt, implies_true, forall_const, forall_eq, ne_eq, exists_eq_right_right, exists_eq_right, exists_eq_left, exists_eq_left', eRune])
    · rw [show fromM s 1 = ([], 2) from by unfold fromM; rw [if_neg (by omega), if_pos (by omega)]]
      exact ⟨Sub.refl _, rfl⟩
    · rw [show fromM s 1 = (encM (decD s), 0) from by unfold fromM fromL; rw [if_neg (by omega), if_neg (by omega), if_neg (by omega), if_neg (by omega)]]
      exact ⟨Sub.refl _, rfl⟩
  · obtain ⟨hi, hh, rfl⟩ : ∃ hi : Nat, hi ≤ 1 ∧ kind = hi + 2 := by
      rcases hk with hk | hk
      · exact ⟨0, by omega, hk⟩
      · exact ⟨1, by omega, hk⟩
    clear hk
    have hsub : ((hi : Int) + 2 - 2) = hi := by omega
    have hUh := hU hi hh
    have hur := unitsM_r s hi
    have hpr := pairM_r (unitsM s hi) hur.2 _ (Nat.le_refl _)
    have htm : (s.length : Int).tmod 2 = ((s.length % 2 : Nat) : Int) := by rw [Int.tmod_eq_emod_of_nonneg (by omega)]; rfl
    have hsf : ¬ 4000 < s.length → fromM s (hi + 2) = _ := fin2 hi hh
    have h2 : fromM s (hi + 2) = ([], 2) ∨ ¬ 4000 < s.length := by
      by_cases h : 4000 < s.length
      · left; unfold fromM; rw [if_neg (by omega), if_pos h]
      · exact .inr h
    have hP := paired_own (G := G) (h := h) (unitsM s hi) (by omega) hur.2
    generalize fromM s (hi + 2) = res at *
    generalize unitsM s hi = u at *
    generalize pairM u = l at *
    refine dcalls_of_vc Try.func46 hn46 hc46 (by rw [Try.ntmps46]; simp) (by rw [Try.ntmps46]; decide) ?_
    simp -dsimp -implicitDefEqProofs (disch := omega) only [↓vcOps_sp 11, ↓vcD_sp 11, VCA, pg_gl, ↓upd_none, Nat.reduceEqDiff, Nat.reduceBEq, Nat.reduceAdd, Nat.reduceSub, Nat.reduceMul, Nat.reduceLT, Nat.reduceLeDiff, ↓reduceIte, reduceCtorEq, rsOf, rootsOf, SOp.rd, SI.rd, SX.rd, rdL, rdO, rdP, okParts, eqCells, okEqCells, fillA, okFill, setAt, implies_true, forall_const, forall_eq, ne_eq, exists_eq_right_right, exists_eq_right, exists_eq_left, exists_eq_left', eRune, c46]
    repeat' (first | (refine Br.dec (fun _ => ?_) (fun _ => ?_) <;> try (exfalso; omega)) | (refine Br.eq (fun _ => ?_) (fun _ => ?_) <;> try (exfalso; omega)) | (refine Br.ne (fun _ => ?_) (fun _ => ?_) <;> try (exfalso; omega)) | refine Br.intro (fun _ => ?_) (fun _ => ?_) | (with_reducible apply pcallE.of; · exact hUh) | (with_reducible refine And.intro ?_ ?_; · omega) | simp -dsimp -implicitDefEqProofs (disch := omega) only [↓vcOps_sp 11, ↓vcD_sp 11, VCA, pg_gl, ↓upd_none, Nat.reduceEqDiff, Nat.reduceBEq, Nat.reduceAdd, Nat.reduceSub, Nat.reduceMul, Nat.reduceLT, Nat.reduceLeDiff, ↓reduceIte, reduceCtorEq, rsOf, rootsOf, SOp.rd, SI.rd, SX.rd, rdL, rdO, rdP, okParts, eqCells, okEqCells, fillA, okFill, setAt, implies_true, forall_const, forall_eq, ne_eq, exists_eq_right_right, exists_eq_right, exists_eq_left, exists_eq_left', eRune, hsub])
    · rcases h2 with h2 | h2
      · rw [h2]; exact ⟨Sub.refl _, rfl⟩
      · omega
    all_goals (
      have hsf := hsf (by omega)
      refine DCalls.of hP ?_
      rintro a h1 ⟨A, S⟩
      simp -dsimp -implicitDefEqProofs (disch := omega) only [↓vcOps_sp 11, ↓vcD_sp 11, VCA, pg_gl, ↓upd_none, Nat.reduceEqDiff, Nat.reduceBEq, Nat.reduceAdd, Nat.reduceSub, Nat.reduceMul, Nat.reduceLT, Nat.reduceLeDiff, ↓reduceIte, reduceCtorEq, rsOf, rootsOf, SOp.rd, SI.rd, SX.rd, rdL, rdO, rdP, okParts, eqCells, okEqCells, fillA, okFill, setAt, implies_true, forall_const, forall_eq, ne_eq, exists_eq_right_right, exists_eq_right, exists_eq_left, exists_eq_left', eRune, htm]
      refine ⟨by omega, ?_⟩
      refine Br.eq (fun ho => ?_) (fun ho => ?_)
      · simp -dsimp -implicitDefEqProofs (disch := omega) only [↓vcOps_sp 11, ↓vcD_sp 11, VCA, pg_gl, ↓upd_none, Nat.reduceEqDiff, Nat.reduceBEq, Nat.reduceAdd, Nat.reduceSub, Nat.reduceMul, Nat.reduceLT, Nat.reduceLeDiff, ↓reduceIte, reduceCtorEq, rsOf, rootsOf, SOp.rd, SI.rd, SX.rd, rdL, rdO, rdP, okParts, eqCells, okEqCells, fillA, okFill, setAt, implies_true, forall_const, forall_eq, ne_eq, exists_eq_right_right, exists_eq_right, exists_eq_left, exists_eq_left', eRune]
        rw [if_pos (by omega)] at hsf
        refine A.app S (by simp; omega) (by simp; omega) fun a' h3 A' S' => ?_
        simp -dsimp -implicitDefEqProofs (disch := omega) only [↓vcOps_sp 11, ↓vcD_sp 11, VCA, pg_gl, ↓upd_none, Nat.reduceEqDiff, Nat.reduceBEq, Nat.reduceAdd, Nat.reduceSub, Nat.reduceMul, Nat.reduceLT, Nat.reduceLeDiff, ↓reduceIte, reduceCtorEq, rsOf, rootsOf, SOp.rd, SI.rd, SX.rd, rdL, rdO, rdP, okParts, eqCells, okEqCells, fillA, okFill, setAt, implies_true, forall_const, forall_eq, ne_eq, exists_eq_right_right, exists_eq_right, exists_eq_left, exists_eq_left', eRune]
        refine Acc.lend (L := l ++ [65533]) (by simpa [eRune] using A') (encode_ok (l ++ [65533]) (fun x hx => ?_) (by simp; omega)) (.str _) ?_
        · rcases List.mem_append.1 hx with hx | hx
          · have := hpr.2 x hx; omega
          · simp at hx; omega
        · rw [hsf]
          simp -dsimp -implicitDefEqProofs (disch := omega) only [↓vcOps_sp 11, ↓vcD_sp 11, VCA, pg_gl, ↓upd_none, Nat.reduceEqDiff, Nat.reduceBEq, Nat.reduceAdd, Nat.reduceSub, Nat.reduceMul, Nat.reduceLT, Nat.reduceLeDiff, ↓reduceIte, reduceCtorEq, rsOf, rootsOf, SOp.rd, SI.rd, SX.rd, rdL, rdO, rdP, okParts, eqCells, okEqCells, fillA, okFill, setAt, implies_true, forall_const, forall_eq, ne_eq, exists_eq_right_right, exists_eq_right, exists_eq_left, exists_eq_left', eRune]
          exact S'
      · simp -dsimp -implicitDefEqProofs (disch := omega) only [↓vcOps_sp 11, ↓vcD_sp 11, VCA, pg_gl, ↓upd_none, Nat.reduceEqDiff, Nat.reduceBEq, Nat.reduceAdd, Nat.reduceSub, Nat.reduceMul, Nat.reduceLT, Nat.reduceLeDiff, ↓reduceIte, reduceCtorEq, rsOf, rootsOf, SOp.rd, SI.rd, SX.rd, rdL, rdO, rdP, okParts, eqCells, okEqCells, fillA, okFill, setAt, implies_true, forall_const, forall_eq, ne_eq, exists_eq_right_right, exists_eq_right, exists_eq_left, exists_eq_left', eRune]
        rw [if_neg (by omega), List.append_nil] at hsf
        refine Acc.lend A (encode_ok l (fun x hx => ?_) (by omega)) (.str _) ?_
        · have := hpr.2 x hx; omega
        · rw [hsf]
          simp -dsimp -implicitDefEqProofs (disch := omega) only [↓vcOps_sp 11, ↓vcD_sp 11, VCA, pg_gl, ↓upd_none, Nat.reduceEqDiff, Nat.reduceBEq, Nat.reduceAdd, Nat.reduceSub, Nat.reduceMul, Nat.reduceLT, Nat.reduceLeDiff, ↓reduceIte, reduceCtorEq, rsOf, rootsOf, SOp.rd, SI.rd, SX.rd, rdL, rdO, rdP, okParts, eqCells, okEqCells, fillA, okFill, setAt, implies_true, forall_const, forall_eq, ne_eq, exists_eq_right_right, exists_eq_right, exists_eq_left, exists_eq_left', eRune]
          exact S)
  · refine dcalls_of_vc Try.func46 hn46 hc46 (by rw [Try.ntmps46]; simp) (by rw [Try.ntmps46]; decide) ?_
    simp -dsimp -implicitDefEqProofs (disch := omega) only [↓vcOps_sp 11, ↓vcD_sp 11, VCA, pg_gl, ↓upd_none, Nat.reduceEqDiff, Nat.reduceBEq, Nat.reduceAdd, Nat.reduceSub, Nat.reduceMul, Nat.reduceLT, Nat.reduceLeDiff, ↓reduceIte, reduceCtorEq, rsOf, rootsOf, SOp.rd, SI.rd, SX.rd, rdL, rdO, rdP, okParts, eqCells, okEqCells, fillA, okFill, setAt, implies_true, forall_const, forall_eq, ne_eq, exists_eq_right_right, exists_eq_right, exists_eq_left, exists_eq_left', eRune, c46]
    repeat' (first | (refine Br.dec (fun _ => ?_) (fun _ => ?_) <;> try (exfalso; omega)) | (refine Br.eq (fun _ => ?_) (fun _ => ?_) <;> try (exfalso; omega)) | (refine Br.ne (fun _ => ?_) (fun _ => ?_) <;> try (exfalso; omega)) | refine Br.intro (fun _ => ?_) (fun _ => ?_) | (with_reducible refine And.intro ?_ ?_; · omega) | simp -dsimp -implicitDefEqProofs (disch := omega) only [↓vcOps_sp 11, ↓vcD_sp 11, VCA, pg_gl, ↓upd_none, Nat.reduceEqDiff, Nat.reduceBEq, Nat.reduceAdd, Nat.reduceSub, Nat.reduceMul, Nat.reduceLT, Nat.reduceLeDiff, ↓reduceIte, reduceCtorEq, rsOf, rootsOf, SOp.rd, SI.rd, SX.rd, rdL, rdO, rdP, okParts, eqCells, okEqCells, fillA, okFill, setAt, implies_true, forall_const, forall_eq, ne_eq, exists_eq_right_right, exists_eq_right, exists_eq_left, exists_eq_left', eRune])
    · rw [show fromM s 4 = ([], 2) from by unfold fromM; rw [if_neg (by omega), if_pos (by omega)]]
      exact ⟨Sub.refl _, rfl⟩
    · have hr : fromM s 4 = (encM (latM s), 0) := by unfold fromM fromL; rw [if_neg (by omega), if_neg (by omega), if_neg (by omega), if_pos rfl]
      have hL := latM_r s
      refine LoopVC.intro (fun m e h' => ∃ k : Nat, m = s.length - k ∧ k ≤ s.length ∧ e 0 = .str s ∧ e 40 = aInt s.length ∧ e 41 = aInt k ∧ Acc h Ti 1 ((latM (s.take k)).map eRune) (e 6) h' ∧ Sub h h') _ ⟨0, rfl, by omega, rfl, rfl, rfl, Acc.nil, Sub.refl _⟩ ?_
      rintro m e h' ⟨k, rfl, hk, he0, he40, he41, A, S⟩
      generalize ea : e 6 = a at A
      have hbk := bt_byte s k
      have ebk : ((s.getD k 0).toNat : Int) = bt s k := rfl
      have hw : IntKind.i32.wrap (bt s k) = bt s k := by rw [IntKind.wrap_i32]; omega
      have hlk : (latM (s.take k)).length = k := by rw [(latM_r _).1, List.length_take]; omega
      simp -dsimp -implicitDefEqProofs (disch := omega) only [↓vcOps_sp 11, ↓vcD_sp 11, VCA, pg_gl, ↓upd_none, Nat.reduceEqDiff, Nat.reduceBEq, Nat.reduceAdd, Nat.reduceSub, Nat.reduceMul, Nat.reduceLT, Nat.reduceLeDiff, ↓reduceIte, reduceCtorEq, rsOf, rootsOf, SOp.rd, SI.rd, SX.rd, rdL, rdO, rdP, okParts, eqCells, okEqCells, fillA, okFill, setAt, implies_true, forall_const, forall_eq, ne_eq, exists_eq_right_right, exists_eq_right, exists_eq_left, exists_eq_left', eRune, he0, he40, he41, ea, ebk, hw]
      repeat' (first | (refine Br.dec (fun _ => ?_) (fun _ => ?_) <;> try (exfalso; omega)) | (refine Br.eq (fun _ => ?_) (fun _ => ?_) <;> try (exfalso; omega)) | (refine Br.ne (fun _ => ?_) (fun _ => ?_) <;> try (exfalso; omega)) | refine Br.intro (fun _ => ?_) (fun _ => ?_) | (refine A.app S (by simp [hlk]; omega) (by simp [hlk]; omega) (fun a' h3 A' S' => ?_)) | (with_reducible refine And.intro ?_ ?_; · omega) | simp -dsimp -implicitDefEqProofs (disch := omega) only [↓vcOps_sp 11, ↓vcD_sp 11, VCA, pg_gl, ↓upd_none, Nat.reduceEqDiff, Nat.reduceBEq, Nat.reduceAdd, Nat.reduceSub, Nat.reduceMul, Nat.reduceLT, Nat.reduceLeDiff, ↓reduceIte, reduceCtorEq, rsOf, rootsOf, SOp.rd, SI.rd, SX.rd, rdL, rdO, rdP, okParts, eqCells, okEqCells, fillA, okFill, setAt, implies_true, forall_const, forall_eq, ne_eq, exists_eq_right_right, exists_eq_right, exists_eq_left, exists_eq_left', eRune, he0, he40, he41, ea, ebk, hw])
      · refine ⟨_, ?_, k + 1, rfl, by omega, by omega, ?_, S'⟩
        · omega
        · rw [lat_snoc (by omega), List.map_append]; exact A'
      · have hkl : k = s.length := by omega
        subst hkl
        rw [List.take_length] at A
        refine Acc.lend A (encode_ok (latM s) (fun x hx => by have := hL.2 x hx; omega) (by omega)) (.str _) ?_
        rw [hr]
        simp -dsimp -implicitDefEqProofs (disch := omega) only [↓vcOps_sp 11, ↓vcD_sp 11, VCA, pg_gl, ↓upd_none, Nat.reduceEqDiff, Nat.reduceBEq, Nat.reduceAdd, Nat.reduceSub, Nat.reduceMul, Nat.reduceLT, Nat.reduceLeDiff, ↓reduceIte, reduceCtorEq, rsOf, rootsOf, SOp.rd, SI.rd, SX.rd, rdL, rdO, rdP, okParts, eqCells, okEqCells, fillA, okFill, setAt, implies_true, forall_const, forall_eq, ne_eq, exists_eq_right_right, exists_eq_right, exists_eq_left, exists_eq_left', eRune]
        exact S
end Go.Proofs.K
