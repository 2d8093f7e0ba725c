/- Texts of this claim, one behind the other. -/
import Derived.Test.YtcbhonddhmeibaaDoorM6
import Derived.Test.YtcbhonddhmeibaaDoorM5
import Derived.Test.YtcbhonddhmeibaaDoorM4
section
set_option linter.unusedSimpArgs false
set_option linter.unusedVariables false
namespace Go.Proofs.K
open Go Go.Sim Go.Proofs
variable {G : Glob}
def atsH : Nat → List UInt8 → List HAttr × Bool
  | 0, _ => ([], false)
  | f + 1, t => match t with
    | [] => ([], true)
    | _ :: u => match cutB 61 u with
      | (_, none) => ([], false)
      | (nm, some v) => match inq qtL v with
        | none => ([], false)
        | some (x, r) => if r = [] then ([⟨nm, x⟩], true) else if r.head? = some 32 then (if r.length = 1 then ([⟨nm, x⟩], false) else (⟨nm, x⟩ :: (atsH f r).1, (atsH f r).2)) else ([], false)
theorem atsH_S : ∀ (f : Nat) (t : List UInt8), atsS f t = if (atsH f t).2 = true then some (atsH f t).1 else none
  | 0, _ => rfl
  | f + 1, [] => rfl
  | f + 1, c :: u => by
    rcases hc : cutB 61 u with ⟨nm, _ | v⟩
    · simp [atsS, atsH, hc]
    · rcases hq : inq qtL v with _ | ⟨x, r⟩
      · simp [atsS, atsH, hc, hq]
      · simp only [atsS, atsH, hc, hq]
        by_cases h0 : r = []
        · rw [if_pos h0, if_pos h0]; rfl
        · rw [if_neg h0, if_neg h0]
          by_cases h1 : r.head? = some 32
          · rw [if_pos h1]
            by_cases h2 : r.length = 1
            · rw [if_neg (fun q => q.2 h2), if_pos h2]; rfl
            · rw [if_pos ⟨h1, h2⟩, if_neg h2, atsH_S f r]
              simp only
              split <;> rfl
          · rw [if_neg (fun q => h1 q.1), if_neg h1]; rfl
theorem atsH_a {f : Nat} {c : UInt8} {u : List UInt8} (h : (cutB 61 u).2 = none) : atsH (f + 1) (c :: u) = ([], false) := by
  rcases hc : cutB 61 u with ⟨nm, o⟩
  rw [hc] at h
  simp only at h
  subst h
  simp only [atsH, hc]
theorem atsH_b {f : Nat} {c : UInt8} {u v : List UInt8} (h : (cutB 61 u).2 = some v) : atsH (f + 1) (c :: u) = match inq qtL v with
        | none => ([], false)
        | some (x, r) => if r = [] then ([⟨(cutB 61 u).1, x⟩], true) else if r.head? = some 32 then (if r.length = 1 then ([⟨(cutB 61 u).1, x⟩], false) else (⟨(cutB 61 u).1, x⟩ :: (atsH f r).1, (atsH f r).2)) else ([], false) := by
  rcases hc : cutB 61 u with ⟨nm, o⟩
  rw [hc] at h
  simp only at h
  subst h
  simp only [atsH, hc]
def nodeH (s : List UInt8) : HNode × Bool :=
  if s = [] then (⟨0, [], [], [], 0, []⟩, false)
  else if s.head? = some 33 then (⟨5, (quotV s 1).1, [], [], 0, []⟩, (quotV s 1).2 == s.length)
  else if s.head? = some 34 then (⟨3, [], [], (quotV s 0).1, 0, []⟩, (quotV s 0).2 == s.length)
  else if s.head? = some 45 then (⟨4, [], [], (quotV s 1).1, 0, []⟩, (quotV s 1).2 == s.length)
  else (⟨2, (cutB 32 s).1, (atsH (s.length + 1) (s.drop (cutB 32 s).1.length)).1, [], 0, []⟩, (atsH (s.length + 1) (s.drop (cutB 32 s).1.length)).2)
theorem outH_all {s t : List UInt8} (hs : 0 < s.length) (ht : t.length ≤ s.length) (k : List UInt8 → HNode) :
    (match inq qtL t with | some (x, []) => some (k x) | _ => none) = if ((outH s (inq qtL t)).2 == s.length) = true then some (k (outH s (inq qtL t)).1) else none := by
  rcases hq : inq qtL t with _ | ⟨x, r⟩
  · have : ((outH s none).2 == (s.length : Int)) = false := by rw [beq_eq_false_iff_ne]; simp only [outH]; omega
    rw [this]; rfl
  · cases r with
    | nil =>
      have : ((outH s (some (x, []))).2 == (s.length : Int)) = true := by simp [outH]
      rw [this, if_pos rfl]; rfl
    | cons a r =>
      have : ((outH s (some (x, a :: r))).2 == (s.length : Int)) = false := by rw [beq_eq_false_iff_ne]; simp only [outH, List.length_cons]; omega
      rw [this]; rfl
theorem nodeH_S (s : List UInt8) : nodeS s = if (nodeH s).2 = true then some (nodeH s).1 else none := by
  unfold nodeS nodeH
  by_cases h0 : s = []
  · rw [if_pos h0, if_pos h0]; rfl
  rw [if_neg h0, if_neg h0]
  have hp := List.length_pos_iff.2 h0
  by_cases h1 : s.head? = some 33
  · rw [if_pos h1, if_pos h1]; exact outH_all hp (by rw [List.length_drop]; omega) fun x => ⟨5, x, [], [], 0, []⟩
  rw [if_neg h1, if_neg h1]
  by_cases h2 : s.head? = some 34
  · rw [if_pos h2, if_pos h2]; exact outH_all hp (Nat.le_refl _) fun x => ⟨3, [], [], x, 0, []⟩
  rw [if_neg h2, if_neg h2]
  by_cases h3 : s.head? = some 45
  · rw [if_pos h3, if_pos h3]; exact outH_all hp (by rw [List.length_drop]; omega) fun x => ⟨4, [], [], x, 0, []⟩
  rw [if_neg h3, if_neg h3, atsH_S]
  simp only
  split <;> rfl
theorem cut_step {b c : UInt8} {s : List UInt8} {i : Nat} (hi : i < s.length) (hc : s.getD i 0 = c) (hb : c ≠ b) : (cutB b (s.drop i)).1.length = (cutB b (s.drop (i + 1))).1.length + 1 ∧ (cutB b (s.drop i)).2 = (cutB b (s.drop (i + 1))).2 := by
  have e : cutB b (c :: s.drop (i + 1)) = (c :: (cutB b (s.drop (i + 1))).1, (cutB b (s.drop (i + 1))).2) := by simp [cutB, hb]
  rw [drop_at hi, hc, e]; exact ⟨rfl, rfl⟩
theorem cut_here {b : UInt8} {s : List UInt8} {i : Nat} (hi : i < s.length) (hc : s.getD i 0 = b) : cutB b (s.drop i) = ([], some (s.drop (i + 1))) := by
  rw [drop_at hi, hc]; unfold cutB; rw [if_pos rfl]
theorem cut_end {b : UInt8} {s : List UInt8} {i : Nat} (hi : s.length ≤ i) : cutB b (s.drop i) = ([], none) := by
  rw [List.drop_of_length_le hi]; rfl
theorem cut_take (b : UInt8) (t : List UInt8) : t.take (cutB b t).1.length = (cutB b t).1 := by
  obtain ⟨y, hy⟩ : ∃ y, t = (cutB b t).1 ++ y := ⟨_, (cutB_is (b := b) t).2⟩
  generalize (cutB b t).1 = x at hy ⊢
  subst hy; simp
theorem flatQ_len : ∀ x : List UInt8, x.length ≤ (x.flatMap quoB).length
  | [] => by simp
  | a :: x => by
    have := flatQ_len x
    have : 1 ≤ (quoB a).length := by unfold quoB; split <;> simp
    rw [List.flatMap_cons, List.length_append, List.length_cons]; omega
theorem qt_suf {s : List UInt8} {j : Nat} {x r : List UInt8} (h : inq qtL (s.drop j) = some (x, r)) : r.length < s.length - j ∧ r = s.drop (s.length - r.length) ∧ x.length + r.length < s.length - j := by
  cases hd : s.drop j with
  | nil => rw [hd] at h; cases h
  | cons c t =>
    rw [hd] at h
    unfold inq at h
    simp only at h
    split at h
    · obtain ⟨_, g⟩ := qt_uq _ t (Nat.le_refl _) x r h
      have e : s = s.take j ++ (c :: (x.flatMap quoB ++ [34])) ++ r := by
        conv => lhs; rw [← List.take_append_drop j s, hd, g]
        simp
      have l := congrArg List.length hd
      rw [List.length_drop] at l
      have l2 := congrArg List.length g
      have l3 := flatQ_len x
      simp only [List.length_append, List.length_cons] at l l2
      refine ⟨by omega, ?_, by omega⟩
      have el := congrArg List.length e
      conv => rhs; rw [e]
      rw [List.drop_append_of_le_length (by simp at el ⊢; omega)]
      rw [List.drop_of_length_le (by simp at el ⊢; omega)]
      rfl
    · cases h
theorem head_get (s : List UInt8) (h : s ≠ []) : s.head? = some (s.getD 0 0) := by cases s with | nil => exact absurd rfl h | cons c t => rfl
def c24 : SFun := ⟨.seq (.reg [⟨some 2, .new 53 6 [.int .i64 0, .str [], .emp, .str [], .int .i64 0, .emp], none⟩, ⟨some 3, .mv (.c (.bool false)), none⟩]) (.seq (.seq (.reg [⟨some 15, .mv (.t 0), none⟩, ⟨some 16, .bin .eql (.t 15) (.c (.str [])), none⟩]) (.cond (.t 16) (.seq (.reg [⟨some 17, .bld [.int .i64 0, .str [], .emp, .str [], .int .i64 0, .emp] [], none⟩, ⟨none, .st 6 (.t 2) (.t 17), none⟩, ⟨some 3, .mv (.c (.bool false)), none⟩]) .ret) .skip)) (.seq (.seq (.reg [⟨some 18, .mv (.t 0), none⟩, ⟨some 19, .idxS (.t 18) (.c (.int .i64 0)), none⟩, ⟨some 20, .bin .eql (.t 19) (.c (.int .u8 33)), none⟩]) (.cond (.t 20) (.seq (.reg [⟨some 22, .mv (.t 0), none⟩, ⟨some 23, .pcall 44 [.t 22, .c (.int .i64 1)], none⟩, ⟨some 21, .mv (.t 23), none⟩, ⟨some 24, .ext (.t 21) 0, none⟩, ⟨some 25, .ext (.t 21) 1, none⟩, ⟨some 4, .mv (.t 24), none⟩, ⟨some 5, .mv (.t 25), none⟩]) (.seq (.reg [⟨some 26, .mv (.t 4), none⟩, ⟨some 27, .bld [.int .i64 0, .str [], .emp, .str [], .int .i64 0, .emp] [(0, (1, (.c (.int .i64 5)))), (1, (1, (.t 26)))], none⟩, ⟨some 28, .mv (.t 5), none⟩, ⟨some 29, .mv (.t 0), none⟩, ⟨some 30, .lenS (.t 29), none⟩, ⟨some 31, .bin .eql (.t 28) (.t 30), none⟩, ⟨none, .st 6 (.t 2) (.t 27), none⟩, ⟨some 3, .mv (.t 31), none⟩]) .ret)) .skip)) (.seq (.seq (.reg [⟨some 32, .mv (.t 0), none⟩, ⟨some 33, .idxS (.t 32) (.c (.int .i64 0)), none⟩, ⟨some 34, .bin .eql (.t 33) (.c (.int .u8 34)), none⟩, ⟨some 35, .mv (.t 34), none⟩, ⟨some 36, .mv (.t 0), some (35, false)⟩, ⟨some 37, .idxS (.t 36) (.c (.int .i64 0)), some (35, false)⟩, ⟨some 38, .bin .eql (.t 37) (.c (.int .u8 45)), some (35, false)⟩, ⟨some 39, .pick (.t 35) (.c (.bool true)) (.t 38), none⟩]) (.cond (.t 39) (.seq (.reg [⟨some 6, .mv (.c (.int .i64 0)), none⟩, ⟨some 7, .mv (.c (.int .i64 3)), none⟩]) (.seq (.seq (.reg [⟨some 40, .mv (.t 0), none⟩, ⟨some 41, .idxS (.t 40) (.c (.int .i64 0)), none⟩, ⟨some 42, .bin .eql (.t 41) (.c (.int .u8 45)), none⟩]) (.cond (.t 42) (.reg [⟨some 6, .mv (.c (.int .i64 1)), none⟩, ⟨some 7, .mv (.c (.int .i64 4)), none⟩]) .skip)) (.seq (.reg [⟨some 44, .mv (.t 0), none⟩, ⟨some 45, .mv (.t 6), none⟩, ⟨some 46, .pcall 44 [.t 44, .t 45], none⟩, ⟨some 43, .mv (.t 46), none⟩, ⟨some 47, .ext (.t 43) 0, none⟩, ⟨some 48, .ext (.t 43) 1, none⟩, ⟨some 8, .mv (.t 47), none⟩, ⟨some 9, .mv (.t 48), none⟩]) (.seq (.reg [⟨some 49, .mv (.t 7), none⟩, ⟨some 50, .mv (.t 8), none⟩, ⟨some 51, .bld [.int .i64 0, .str [], .emp, .str [], .int .i64 0, .emp] [(0, (1, (.t 49))), (3, (1, (.t 50)))], none⟩, ⟨some 52, .mv (.t 9), none⟩, ⟨some 53, .mv (.t 0), none⟩, ⟨some 54, .lenS (.t 53), none⟩, ⟨some 55, .bin .eql (.t 52) (.t 54), none⟩, ⟨none, .st 6 (.t 2) (.t 51), none⟩, ⟨some 3, .mv (.t 55), none⟩]) .ret)))) .skip)) (.seq (.reg [⟨some 10, .mv (.c (.int .i64 0)), none⟩]) (.seq (.block 0 (.loop (.seq (.seq (.reg [⟨some 56, .mv (.t 10), none⟩, ⟨some 57, .mv (.t 0), none⟩, ⟨some 58, .lenS (.t 57), none⟩, ⟨some 59, .bin .lss (.t 56) (.t 58), none⟩, ⟨some 60, .mv (.t 59), none⟩, ⟨some 61, .mv (.t 0), some (60, true)⟩, ⟨some 62, .mv (.t 10), some (60, true)⟩, ⟨some 63, .idxS (.t 61) (.t 62), some (60, true)⟩, ⟨some 64, .bin .neq (.t 63) (.c (.int .u8 32)), some (60, true)⟩, ⟨some 65, .pick (.t 60) (.t 64) (.c (.bool false)), none⟩]) (.cond (.t 65) .skip (.exit 0))) (.block 1 (.reg [⟨some 66, .mv (.t 10), none⟩, ⟨some 67, .bin .add (.t 66) (.c (.int .i64 1)), none⟩, ⟨some 10, .mv (.t 67), none⟩]))))) (.seq (.reg [⟨some 68, .mv (.t 0), none⟩, ⟨some 69, .mv (.t 10), none⟩, ⟨some 70, .slS (.t 68) none (some (.t 69)), none⟩, ⟨some 71, .bld [.int .i64 0, .str [], .emp, .str [], .int .i64 0, .emp] [(0, (1, (.c (.int .i64 2)))), (1, (1, (.t 70)))], none⟩, ⟨some 11, .new 53 6 [.int .i64 0, .str [], .emp, .str [], .int .i64 0, .emp], none⟩, ⟨none, .st 6 (.t 11) (.t 71), none⟩]) (.seq (.block 2 (.loop (.seq (.seq (.reg [⟨some 72, .mv (.t 10), none⟩, ⟨some 73, .mv (.t 0), none⟩, ⟨some 74, .lenS (.t 73), none⟩, ⟨some 75, .bin .lss (.t 72) (.t 74), none⟩]) (.cond (.t 75) .skip (.exit 2))) (.block 3 (.seq (.reg [⟨some 76, .mv (.t 10), none⟩, ⟨some 77, .bin .add (.t 76) (.c (.int .i64 1)), none⟩, ⟨some 12, .mv (.t 77), none⟩]) (.seq (.reg [⟨some 78, .mv (.t 12), none⟩, ⟨some 10, .mv (.t 78), none⟩]) (.seq (.block 4 (.loop (.seq (.seq (.reg [⟨some 79, .mv (.t 10), none⟩, ⟨some 80, .mv (.t 0), none⟩, ⟨some 81, .lenS (.t 80), none⟩, ⟨some 82, .bin .lss (.t 79) (.t 81), none⟩, ⟨some 83, .mv (.t 82), none⟩, ⟨some 84, .mv (.t 0), some (83, true)⟩, ⟨some 85, .mv (.t 10), some (83, true)⟩, ⟨some 86, .idxS (.t 84) (.t 85), some (83, true)⟩, ⟨some 87, .bin .neq (.t 86) (.c (.int .u8 61)), some (83, true)⟩, ⟨some 88, .pick (.t 83) (.t 87) (.c (.bool false)), none⟩]) (.cond (.t 88) .skip (.exit 4))) (.block 5 (.reg [⟨some 89, .mv (.t 10), none⟩, ⟨some 90, .bin .add (.t 89) (.c (.int .i64 1)), none⟩, ⟨some 10, .mv (.t 90), none⟩]))))) (.seq (.seq (.reg [⟨some 91, .mv (.t 10), none⟩, ⟨some 92, .mv (.t 0), none⟩, ⟨some 93, .lenS (.t 92), none⟩, ⟨some 94, .bin .geq (.t 91) (.t 93), none⟩]) (.cond (.t 94) (.seq (.reg [⟨some 95, .ld 6 true (.t 11), none⟩, ⟨none, .st 6 (.t 2) (.t 95), none⟩, ⟨some 3, .mv (.c (.bool false)), none⟩]) .ret) .skip)) (.seq (.reg [⟨some 97, .mv (.t 0), none⟩, ⟨some 98, .mv (.t 10), none⟩, ⟨some 99, .bin .add (.t 98) (.c (.int .i64 1)), none⟩, ⟨some 100, .pcall 44 [.t 97, .t 99], none⟩, ⟨some 96, .mv (.t 100), none⟩, ⟨some 101, .ext (.t 96) 0, none⟩, ⟨some 102, .ext (.t 96) 1, none⟩, ⟨some 13, .mv (.t 101), none⟩, ⟨some 14, .mv (.t 102), none⟩]) (.seq (.seq (.reg [⟨some 103, .mv (.t 14), none⟩, ⟨some 104, .bin .lss (.t 103) (.c (.int .i64 0)), none⟩, ⟨some 105, .mv (.t 104), none⟩, ⟨some 106, .mv (.t 14), some (105, false)⟩, ⟨some 107, .mv (.t 0), some (105, false)⟩, ⟨some 108, .lenS (.t 107), some (105, false)⟩, ⟨some 109, .bin .lss (.t 106) (.t 108), some (105, false)⟩, ⟨some 110, .mv (.t 109), some (105, false)⟩, ⟨some 111, .mv (.t 0), some (110, true)⟩, ⟨some 112, .mv (.t 14), some (110, true)⟩, ⟨some 113, .idxS (.t 111) (.t 112), some (110, true)⟩, ⟨some 114, .bin .neq (.t 113) (.c (.int .u8 32)), some (110, true)⟩, ⟨some 115, .pick (.t 110) (.t 114) (.c (.bool false)), some (105, false)⟩, ⟨some 116, .pick (.t 105) (.c (.bool true)) (.t 115), none⟩]) (.cond (.t 116) (.seq (.reg [⟨some 117, .ld 6 true (.t 11), none⟩, ⟨none, .st 6 (.t 2) (.t 117), none⟩, ⟨some 3, .mv (.c (.bool false)), none⟩]) .ret) .skip)) (.seq (.dreg [(⟨some 118, .fldA 2 (.t 11), none⟩, none), (⟨some 119, .ld 1 false (.t 118), none⟩, none), (⟨some 120, .mv (.t 0), none⟩, none), (⟨some 121, .mv (.t 12), none⟩, none), (⟨some 122, .mv (.t 10), none⟩, none), (⟨some 123, .slS (.t 120) (some (.t 121)) (some (.t 122)), none⟩, none), (⟨some 124, .mv (.t 13), none⟩, none), (⟨some 125, .bld [.str [], .str []] [(0, (1, (.t 123))), (1, (1, (.t 124)))], none⟩, none), (⟨some 126, .bldF 43 2 [.t 125], none⟩, none), (⟨some 127, .app 43 2 32 (.t 119) (.t 126), none⟩, (some [119])), (⟨some 128, .fldA 2 (.t 11), none⟩, none), (⟨none, .st 1 (.t 128) (.t 127), none⟩, (some [119]))]) (.seq (.reg [⟨some 129, .mv (.t 14), none⟩, ⟨some 10, .mv (.t 129), none⟩]) (.seq (.reg [⟨some 130, .mv (.t 10), none⟩, ⟨some 131, .mv (.t 0), none⟩, ⟨some 132, .lenS (.t 131), none⟩, ⟨some 133, .bin .lss (.t 130) (.t 132), none⟩, ⟨some 134, .mv (.t 133), none⟩, ⟨some 135, .mv (.t 10), some (134, true)⟩, ⟨some 136, .bin .add (.t 135) (.c (.int .i64 1)), some (134, true)⟩, ⟨some 137, .mv (.t 0), some (134, true)⟩, ⟨some 138, .lenS (.t 137), some (134, true)⟩, ⟨some 139, .bin .eql (.t 136) (.t 138), some (134, true)⟩, ⟨some 140, .pick (.t 134) (.t 139) (.c (.bool false)), none⟩]) (.cond (.t 140) (.seq (.reg [⟨some 141, .ld 6 true (.t 11), none⟩, ⟨none, .st 6 (.t 2) (.t 141), none⟩, ⟨some 3, .mv (.c (.bool false)), none⟩]) .ret) .skip)))))))))))))) (.seq (.reg [⟨some 142, .ld 6 true (.t 11), none⟩, ⟨none, .st 6 (.t 2) (.t 142), none⟩, ⟨some 3, .mv (.c (.bool true)), none⟩]) .ret)))))))), [.cell 2 6 true, .tmp 3]⟩
theorem hc24 : toSF Tryd.prog {pure := [44]} Tryd.f24 = some c24 := by kernel_rfl
theorem hn24 : (Tryd.f24.name == "runtime.NumGoroutine") = false := by kernel_rfl
set_option maxHeartbeats 1000000 in
theorem nodeOf_ok (s : List UInt8) (hs : s.length ≤ 1000000) : PCalls (Pg G) 24 [.str s] (.tup [.agg (rowE (nodeH s).1), .bool (nodeH s).2]) := PCalls.outV fun h => by
  have q0 := quotedAt_ok (G := G) s hs 0 (by omega)
  have q1 := quotedAt_ok (G := G) s hs 1 (by omega)
  have c0 : ((0 : Nat) : Int) = 0 := rfl
  have c1 : ((1 : Nat) : Int) = 1 := rfl
  rw [c0] at q0
  rw [c1] at q1
  unfold nodeH
  by_cases h0 : s = []
  · rw [if_pos h0]
    have b0 : (s == []) = true := by rw [h0]; rfl
    refine dcalls_of_vc Tryd.func24 hn24 hc24 (by rw [Tryd.ntmps24]; simp) (by rw [Tryd.ntmps24]; decide) ?_
    simp -dsimp -implicitDefEqProofs (disch := omega) only [↓vcOps_sp 35, ↓vcD_sp 35, ↓vcOps_sp 60, ↓vcD_sp 60, ↓vcOps_sp 83, ↓vcD_sp 83, ↓vcOps_sp 105, ↓vcD_sp 105, ↓vcOps_sp 110, ↓vcD_sp 110, ↓vcOps_sp 134, ↓vcD_sp 134, VCA, pg_gl, ↓upd_none, Nat.reduceEqDiff, Nat.reduceBEq, Nat.reduceAdd, Nat.reduceSub, Nat.reduceMul, Nat.reduceLT, Nat.reduceLeDiff, ↓reduceIte, reduceCtorEq, rsOf, rootsOf, SOp.rd, SI.rd, SX.rd, rdL, rdO, rdP, okParts, eqCells, okEqCells, fillA, okFill, setAt, implies_true, forall_const, forall_eq, ne_eq, exists_eq_right_right, exists_eq_right, exists_eq_left, exists_eq_left', rootL, eAttr, eInt, eBool, lit_eq, c24]
    intro r2 hr2
    repeat' (first | ((with_reducible refine brC (fun _ => ?_) fun _ => ?_) <;> try (exfalso; omega)) | (with_reducible refine And.intro ?_ ?_; · omega) | simp -dsimp -implicitDefEqProofs (disch := omega) only [↓vcOps_sp 35, ↓vcD_sp 35, ↓vcOps_sp 60, ↓vcD_sp 60, ↓vcOps_sp 83, ↓vcD_sp 83, ↓vcOps_sp 105, ↓vcD_sp 105, ↓vcOps_sp 110, ↓vcD_sp 110, ↓vcOps_sp 134, ↓vcD_sp 134, VCA, pg_gl, ↓upd_none, Nat.reduceEqDiff, Nat.reduceBEq, Nat.reduceAdd, Nat.reduceSub, Nat.reduceMul, Nat.reduceLT, Nat.reduceLeDiff, ↓reduceIte, reduceCtorEq, rsOf, rootsOf, SOp.rd, SI.rd, SX.rd, rdL, rdO, rdP, okParts, eqCells, okEqCells, fillA, okFill, setAt, implies_true, forall_const, forall_eq, ne_eq, exists_eq_right_right, exists_eq_right, exists_eq_left, exists_eq_left', rootL, eAttr, eInt, eBool, lit_eq, upd_same, b0])
    all_goals try (exfalso; first | exact h0 (by assumption) | exact (by assumption : s ≠ []) h0)
    all_goals exact ⟨_, Sub.refl _, (Sub.refl h).upd hr2, .tup' (.cons (.agg' (.cons (.refl _) (.cons (.refl _) (.cons .emp (.cons (.refl _) (.cons (.refl _) (.cons (.refl _) .nil))))))) (.cons (.refl _) .nil))⟩
  rw [if_neg h0]
  have b0 : (s == []) = false := by simpa using h0
  have hp := List.length_pos_iff.2 h0
  rw [head_get s h0]
  obtain ⟨c, hc⟩ : ∃ c, s.getD 0 0 = c := ⟨_, rfl⟩
  have i0 : Int.toNat 0 = 0 := rfl
  have bb : ∀ d : UInt8, ((c.toNat : Int) == d.toNat) = decide (some c = some d) := fun d => by
    rw [Bool.eq_iff_iff]; simp only [beq_iff_eq, decide_eq_true_eq, Option.some.injEq]
    exact ⟨fun q => bt_inj (by simpa using q), fun q => by rw [q]⟩
  have b33 := bb 33
  have b34 := bb 34
  have b45 := bb 45
  rw [show ((33 : UInt8).toNat : Int) = 33 from rfl] at b33
  rw [show ((34 : UInt8).toNat : Int) = 34 from rfl] at b34
  rw [show ((45 : UInt8).toNat : Int) = 45 from rfl] at b45
  rw [hc]
  by_cases k33 : some c = some (33 : UInt8)
  · rw [if_pos k33]
    rw [decide_eq_true k33] at b33
    refine dcalls_of_vc Tryd.func24 hn24 hc24 (by rw [Tryd.ntmps24]; simp) (by rw [Tryd.ntmps24]; decide) ?_
    simp -dsimp -implicitDefEqProofs (disch := omega) only [↓vcOps_sp 35, ↓vcD_sp 35, ↓vcOps_sp 60, ↓vcD_sp 60, ↓vcOps_sp 83, ↓vcD_sp 83, ↓vcOps_sp 105, ↓vcD_sp 105, ↓vcOps_sp 110, ↓vcD_sp 110, ↓vcOps_sp 134, ↓vcD_sp 134, VCA, pg_gl, ↓upd_none, Nat.reduceEqDiff, Nat.reduceBEq, Nat.reduceAdd, Nat.reduceSub, Nat.reduceMul, Nat.reduceLT, Nat.reduceLeDiff, ↓reduceIte, reduceCtorEq, rsOf, rootsOf, SOp.rd, SI.rd, SX.rd, rdL, rdO, rdP, okParts, eqCells, okEqCells, fillA, okFill, setAt, implies_true, forall_const, forall_eq, ne_eq, exists_eq_right_right, exists_eq_right, exists_eq_left, exists_eq_left', rootL, eAttr, eInt, eBool, lit_eq, c24]
    intro r2 hr2
    repeat' (first | ((with_reducible refine brC (fun _ => ?_) fun _ => ?_) <;> try (exfalso; omega)) | (with_reducible apply pcallE.of; · exact q1) | (with_reducible refine And.intro ?_ ?_; · omega) | simp -dsimp -implicitDefEqProofs (disch := omega) only [↓vcOps_sp 35, ↓vcD_sp 35, ↓vcOps_sp 60, ↓vcD_sp 60, ↓vcOps_sp 83, ↓vcD_sp 83, ↓vcOps_sp 105, ↓vcD_sp 105, ↓vcOps_sp 110, ↓vcD_sp 110, ↓vcOps_sp 134, ↓vcD_sp 134, VCA, pg_gl, ↓upd_none, Nat.reduceEqDiff, Nat.reduceBEq, Nat.reduceAdd, Nat.reduceSub, Nat.reduceMul, Nat.reduceLT, Nat.reduceLeDiff, ↓reduceIte, reduceCtorEq, rsOf, rootsOf, SOp.rd, SI.rd, SX.rd, rdL, rdO, rdP, okParts, eqCells, okEqCells, fillA, okFill, setAt, implies_true, forall_const, forall_eq, ne_eq, exists_eq_right_right, exists_eq_right, exists_eq_left, exists_eq_left', rootL, eAttr, eInt, eBool, lit_eq, upd_same, b0, hc, b33, i0])
    all_goals try (exfalso; first | exact h0 (by assumption) | exact (by assumption : s ≠ []) h0)
    all_goals exact ⟨_, Sub.refl _, (Sub.refl h).upd hr2, .tup' (.cons (.agg' (.cons (.refl _) (.cons (.refl _) (.cons .emp (.cons (.refl _) (.cons (.refl _) (.cons (.refl _) .nil))))))) (.cons (.refl _) .nil))⟩
  rw [if_neg k33]
  rw [decide_eq_false k33] at b33
  by_cases k34 : some c = some (34 : UInt8)
  · rw [if_pos k34]
    rw [decide_eq_true k34] at b34
    have k45 : ¬ some c = some (45 : UInt8) := by rw [k34]; decide
    rw [decide_eq_false k45] at b45
    refine dcalls_of_vc Tryd.func24 hn24 hc24 (by rw [Tryd.ntmps24]; simp) (by rw [Tryd.ntmps24]; decide) ?_
    simp -dsimp -implicitDefEqProofs (disch := omega) only [↓vcOps_sp 35, ↓vcD_sp 35, ↓vcOps_sp 60, ↓vcD_sp 60, ↓vcOps_sp 83, ↓vcD_sp 83, ↓vcOps_sp 105, ↓vcD_sp 105, ↓vcOps_sp 110, ↓vcD_sp 110, ↓vcOps_sp 134, ↓vcD_sp 134, VCA, pg_gl, ↓upd_none, Nat.reduceEqDiff, Nat.reduceBEq, Nat.reduceAdd, Nat.reduceSub, Nat.reduceMul, Nat.reduceLT, Nat.reduceLeDiff, ↓reduceIte, reduceCtorEq, rsOf, rootsOf, SOp.rd, SI.rd, SX.rd, rdL, rdO, rdP, okParts, eqCells, okEqCells, fillA, okFill, setAt, implies_true, forall_const, forall_eq, ne_eq, exists_eq_right_right, exists_eq_right, exists_eq_left, exists_eq_left', rootL, eAttr, eInt, eBool, lit_eq, c24]
    intro r2 hr2
    repeat' (first | ((with_reducible refine brC (fun _ => ?_) fun _ => ?_) <;> try (exfalso; omega)) | (with_reducible apply pcallE.of; · exact q0) | (with_reducible refine And.intro ?_ ?_; · omega) | simp -dsimp -implicitDefEqProofs (disch := omega) only [↓vcOps_sp 35, ↓vcD_sp 35, ↓vcOps_sp 60, ↓vcD_sp 60, ↓vcOps_sp 83, ↓vcD_sp 83, ↓vcOps_sp 105, ↓vcD_sp 105, ↓vcOps_sp 110, ↓vcD_sp 110, ↓vcOps_sp 134, ↓vcD_sp 134, VCA, pg_gl, ↓upd_none, Nat.reduceEqDiff, Nat.reduceBEq, Nat.reduceAdd, Nat.reduceSub, Nat.reduceMul, Nat.reduceLT, Nat.reduceLeDiff, ↓reduceIte, reduceCtorEq, rsOf, rootsOf, SOp.rd, SI.rd, SX.rd, rdL, rdO, rdP, okParts, eqCells, okEqCells, fillA, okFill, setAt, implies_true, forall_const, forall_eq, ne_eq, exists_eq_right_right, exists_eq_right, exists_eq_left, exists_eq_left', rootL, eAttr, eInt, eBool, lit_eq, upd_same, b0, hc, b33, b34, b45, i0])
    all_goals try (exfalso; first | exact h0 (by assumption) | exact (by assumption : s ≠ []) h0)
    all_goals exact ⟨_, Sub.refl _, (Sub.refl h).upd hr2, .tup' (.cons (.agg' (.cons (.refl _) (.cons (.refl _) (.cons .emp (.cons (.refl _) (.cons (.refl _) (.cons (.refl _) .nil))))))) (.cons (.refl _) .nil))⟩
  rw [if_neg k34]
  rw [decide_eq_false k34] at b34
  by_cases k45 : some c = some (45 : UInt8)
  · rw [if_pos k45]
    rw [decide_eq_true k45] at b45
    refine dcalls_of_vc Tryd.func24 hn24 hc24 (by rw [Tryd.ntmps24]; simp) (by rw [Tryd.ntmps24]; decide) ?_
    simp -dsimp -implicitDefEqProofs (disch := omega) only [↓vcOps_sp 35, ↓vcD_sp 35, ↓vcOps_sp 60, ↓vcD_sp 60, ↓vcOps_sp 83, ↓vcD_sp 83, ↓vcOps_sp 105, ↓vcD_sp 105, ↓vcOps_sp 110, ↓vcD_sp 110, ↓vcOps_sp 134, ↓vcD_sp 134, VCA, pg_gl, ↓upd_none, Nat.reduceEqDiff, Nat.reduceBEq, Nat.reduceAdd, Nat.reduceSub, Nat.reduceMul, Nat.reduceLT, Nat.reduceLeDiff, ↓reduceIte, reduceCtorEq, rsOf, rootsOf, SOp.rd, SI.rd, SX.rd, rdL, rdO, rdP, okParts, eqCells, okEqCells, fillA, okFill, setAt, implies_true, forall_const, forall_eq, ne_eq, exists_eq_right_right, exists_eq_right, exists_eq_left, exists_eq_left', rootL, eAttr, eInt, eBool, lit_eq, c24]
    intro r2 hr2
    repeat' (first | ((with_reducible refine brC (fun _ => ?_) fun _ => ?_) <;> try (exfalso; omega)) | (with_reducible apply pcallE.of; · exact q1) | (with_reducible refine And.intro ?_ ?_; · omega) | simp -dsimp -implicitDefEqProofs (disch := omega) only [↓vcOps_sp 35, ↓vcD_sp 35, ↓vcOps_sp 60, ↓vcD_sp 60, ↓vcOps_sp 83, ↓vcD_sp 83, ↓vcOps_sp 105, ↓vcD_sp 105, ↓vcOps_sp 110, ↓vcD_sp 110, ↓vcOps_sp 134, ↓vcD_sp 134, VCA, pg_gl, ↓upd_none, Nat.reduceEqDiff, Nat.reduceBEq, Nat.reduceAdd, Nat.reduceSub, Nat.reduceMul, Nat.reduceLT, Nat.reduceLeDiff, ↓reduceIte, reduceCtorEq, rsOf, rootsOf, SOp.rd, SI.rd, SX.rd, rdL, rdO, rdP, okParts, eqCells, okEqCells, fillA, okFill, setAt, implies_true, forall_const, forall_eq, ne_eq, exists_eq_right_right, exists_eq_right, exists_eq_left, exists_eq_left', rootL, eAttr, eInt, eBool, lit_eq, upd_same, b0, hc, b33, b34, b45, i0])
    all_goals try (exfalso; first | exact h0 (by assumption) | exact (by assumption : s ≠ []) h0)
    all_goals exact ⟨_, Sub.refl _, (Sub.refl h).upd hr2, .tup' (.cons (.agg' (.cons (.refl _) (.cons (.refl _) (.cons .emp (.cons (.refl _) (.cons (.refl _) (.cons (.refl _) .nil))))))) (.cons (.refl _) .nil))⟩
  rw [if_neg k45]
  rw [decide_eq_false k45] at b45
  obtain ⟨nm, hnm⟩ : ∃ nm, (cutB 32 s).1 = nm := ⟨_, rfl⟩
  obtain ⟨T, hT⟩ : ∃ T, atsH (s.length + 1) (s.drop nm.length) = T := ⟨_, rfl⟩
  have hcl := (cutB_len 32 s).1
  rw [hnm] at hcl ⊢
  rw [hT]
  refine dcalls_of_vc Tryd.func24 hn24 hc24 (by rw [Tryd.ntmps24]; simp) (by rw [Tryd.ntmps24]; decide) ?_
  simp -dsimp -implicitDefEqProofs (disch := omega) only [↓vcOps_sp 35, ↓vcD_sp 35, ↓vcOps_sp 60, ↓vcD_sp 60, ↓vcOps_sp 83, ↓vcD_sp 83, ↓vcOps_sp 105, ↓vcD_sp 105, ↓vcOps_sp 110, ↓vcD_sp 110, ↓vcOps_sp 134, ↓vcD_sp 134, VCA, pg_gl, ↓upd_none, Nat.reduceEqDiff, Nat.reduceBEq, Nat.reduceAdd, Nat.reduceSub, Nat.reduceMul, Nat.reduceLT, Nat.reduceLeDiff, ↓reduceIte, reduceCtorEq, rsOf, rootsOf, SOp.rd, SI.rd, SX.rd, rdL, rdO, rdP, okParts, eqCells, okEqCells, fillA, okFill, setAt, implies_true, forall_const, forall_eq, ne_eq, exists_eq_right_right, exists_eq_right, exists_eq_left, exists_eq_left', rootL, eAttr, eInt, eBool, lit_eq, c24]
  intro r2 hr2
  repeat' (first | ((with_reducible refine brC (fun _ => ?_) fun _ => ?_) <;> try (exfalso; omega)) | (with_reducible refine And.intro ?_ ?_; · omega) | simp -dsimp -implicitDefEqProofs (disch := omega) only [↓vcOps_sp 35, ↓vcD_sp 35, ↓vcOps_sp 60, ↓vcD_sp 60, ↓vcOps_sp 83, ↓vcD_sp 83, ↓vcOps_sp 105, ↓vcD_sp 105, ↓vcOps_sp 110, ↓vcD_sp 110, ↓vcOps_sp 134, ↓vcD_sp 134, VCA, pg_gl, ↓upd_none, Nat.reduceEqDiff, Nat.reduceBEq, Nat.reduceAdd, Nat.reduceSub, Nat.reduceMul, Nat.reduceLT, Nat.reduceLeDiff, ↓reduceIte, reduceCtorEq, rsOf, rootsOf, SOp.rd, SI.rd, SX.rd, rdL, rdO, rdP, okParts, eqCells, okEqCells, fillA, okFill, setAt, implies_true, forall_const, forall_eq, ne_eq, exists_eq_right_right, exists_eq_right, exists_eq_left, exists_eq_left', rootL, eAttr, eInt, eBool, lit_eq, upd_same, b0, hc, b33, b34, b45, i0])
  all_goals try (exfalso; first | exact h0 (by assumption) | exact (by assumption : s ≠ []) h0)
  refine LoopVC.intro (fun m e h' => ∃ (i : Nat), m = s.length - i ∧ i ≤ s.length ∧ e 0 = .str s ∧ e 2 = .vp r2 0 ∧ e 3 = .bool false ∧ e 10 = aInt i ∧ h' = upd h r2 (some ⟨.t 53, 6, [[aInt 0, .str [], .emp, .str [], aInt 0, .emp]]⟩) ∧
      nm.length = i + (cutB 32 (s.drop i)).1.length) s.length
    ⟨0, by omega, by omega, rfl, rfl, rfl, rfl, by simp [upd], by rw [List.drop_zero, hnm]; omega⟩ ?_
  rintro m e h' ⟨i, rfl, hi, e0, e2, e3, e10, rfl, hI⟩
  by_cases hgo : i < s.length ∧ s.getD i 0 ≠ 32
  · obtain ⟨d, hd⟩ : ∃ d, s.getD i 0 = d := ⟨_, rfl⟩
    obtain ⟨hlt, hne⟩ := hgo
    have st := cut_step (b := 32) hlt hd (by rw [← hd]; exact hne)
    rw [hd] at hne
    have b32 : ((d.toNat : Int) != 32) = true := by rw [bne_iff_ne]; intro hh; exact hne (bt_inj (by simpa using hh))
    repeat' (first | ((with_reducible refine brC (fun _ => ?_) fun _ => ?_) <;> try (exfalso; omega)) | (with_reducible refine And.intro ?_ ?_; · omega) | simp -dsimp -implicitDefEqProofs (disch := omega) only [↓vcOps_sp 35, ↓vcD_sp 35, ↓vcOps_sp 60, ↓vcD_sp 60, ↓vcOps_sp 83, ↓vcD_sp 83, ↓vcOps_sp 105, ↓vcD_sp 105, ↓vcOps_sp 110, ↓vcD_sp 110, ↓vcOps_sp 134, ↓vcD_sp 134, VCA, pg_gl, ↓upd_none, Nat.reduceEqDiff, Nat.reduceBEq, Nat.reduceAdd, Nat.reduceSub, Nat.reduceMul, Nat.reduceLT, Nat.reduceLeDiff, ↓reduceIte, reduceCtorEq, rsOf, rootsOf, SOp.rd, SI.rd, SX.rd, rdL, rdO, rdP, okParts, eqCells, okEqCells, fillA, okFill, setAt, implies_true, forall_const, forall_eq, ne_eq, exists_eq_right_right, exists_eq_right, exists_eq_left, exists_eq_left', rootL, eAttr, eInt, eBool, lit_eq, e0, e2, e3, e10, hd, b32])
    all_goals try (exfalso; omega)
    all_goals exact ⟨_, by omega, i + 1, rfl, by omega, by omega, by rw [hI, st.1]; omega⟩
  have hin : nm.length = i := by
    by_cases hlt : i < s.length
    · have : s.getD i 0 = 32 := Classical.byContradiction fun q => hgo ⟨hlt, q⟩
      rw [cut_here hlt this] at hI; simpa using hI
    · rw [cut_end (by omega)] at hI; simpa using hI
  have tk : s.take nm.length = nm := by rw [← hnm]; exact cut_take 32 s
  rw [hin] at hT tk
  have fin : ∀ (D : List HAttr) (x : AVal) (H : Heap) (b : Bool), Acc h 43 2 (D.map eAttr) x H → Sim.Sub h H → (D, b) = T →
      ∃ h4, Sim.Sub h4 H ∧ Sim.Sub h h4 ∧ VwT (newH h h4) (.tup [.agg [aInt 2, .str nm, x, .str [], aInt 0, .emp], .bool b]) (.tup [.agg (rowE ⟨2, nm, T.1, [], 0, []⟩), .bool T.2]) := fun D x H b A S hE => by
    rw [← hE]
    exact ⟨_, Sub.refl _, S, .tup' (.cons (.agg' (.cons (.refl _) (.cons (.refl _) (.cons (A.vw fun f hf => by obtain ⟨x, _, rfl⟩ := List.mem_map.1 hf; rfl) (.cons (.refl _) (.cons (.refl _) (.cons (.refl _) .nil))))))) (.cons (.refl _) .nil))⟩
  have ti : ((i : Int)).toNat = i := by omega
  obtain ⟨d0, hd0⟩ : ∃ d, s.getD i 0 = d := ⟨_, rfl⟩
  have b32 : i < s.length → ((d0.toNat : Int) != 32) = false := fun hlt => by
    have : s.getD i 0 = 32 := Classical.byContradiction fun q => hgo ⟨hlt, q⟩
    rw [hd0] at this; rw [this]; rfl
  by_cases hlt0 : i < s.length
  all_goals try (have b32 := b32 hlt0)
  all_goals (repeat' (first | ((with_reducible refine brC (fun _ => ?_) fun _ => ?_) <;> try (exfalso; omega)) | (with_reducible refine And.intro ?_ ?_; · omega) | simp -dsimp -implicitDefEqProofs (disch := omega) only [↓vcOps_sp 35, ↓vcD_sp 35, ↓vcOps_sp 60, ↓vcD_sp 60, ↓vcOps_sp 83, ↓vcD_sp 83, ↓vcOps_sp 105, ↓vcD_sp 105, ↓vcOps_sp 110, ↓vcD_sp 110, ↓vcOps_sp 134, ↓vcD_sp 134, VCA, pg_gl, ↓upd_none, Nat.reduceEqDiff, Nat.reduceBEq, Nat.reduceAdd, Nat.reduceSub, Nat.reduceMul, Nat.reduceLT, Nat.reduceLeDiff, ↓reduceIte, reduceCtorEq, rsOf, rootsOf, SOp.rd, SI.rd, SX.rd, rdL, rdO, rdP, okParts, eqCells, okEqCells, fillA, okFill, setAt, implies_true, forall_const, forall_eq, ne_eq, exists_eq_right_right, exists_eq_right, exists_eq_left, exists_eq_left', rootL, eAttr, eInt, eBool, lit_eq, e0, e2, e3, e10, hd0, b32, ti, tk]))
  all_goals try (exfalso; omega)
  all_goals (
    rintro r11 ⟨n112, hr11⟩
    have n211 : ¬ r2 = r11 := fun q => n112 q.symm
    refine LoopVC.intro (fun m e h' => ∃ (f : Nat) (D : List HAttr) (x : AVal) (i : Nat), m = s.length - i ∧ i ≤ s.length ∧ s.length - i < f ∧ e 0 = .str s ∧ e 2 = .vp r2 0 ∧ e 3 = .bool false ∧ e 10 = aInt i ∧ e 11 = .vp r11 0 ∧
        h' r2 = some ⟨.t 53, 6, [[aInt 0, .str [], .emp, .str [], aInt 0, .emp]]⟩ ∧ h' r11 = some ⟨.t 53, 6, [[aInt 2, .str nm, x, .str [], aInt 0, .emp]]⟩ ∧
        Acc h 43 2 (D.map eAttr) x h' ∧ rootOf x ≠ some r2 ∧ rootOf x ≠ some r11 ∧ Sim.Sub h h' ∧ D.length + (s.length - i) ≤ s.length ∧ (D ++ (atsH f (s.drop i)).1, (atsH f (s.drop i)).2) = T) (s.length - i)
      ⟨s.length + 1, [], .emp, i, rfl, hi, by omega, by simp [upd, e0], by simp [upd, e2], by simp [upd, e3], by simp [upd, e10], by simp [upd], by simp [upd, n211], by simp [upd], .inl ⟨rfl, rfl⟩, (fun q => by cases q), (fun q => by cases q), ((Sub.refl h).upd hr2).upd hr11, by simp, by rw [hT]; rfl⟩ ?_
    clear hi e0 e2 e3 e10 hI hgo hin tk ti hd0 hT
    rintro m e h' ⟨f, D, x, i, rfl, hi, hf, e0, e2, e3, e10, e11, g2, g11, A, x2, x11, S, hD, hE⟩
    obtain ⟨f, rfl⟩ : ∃ g, f = g + 1 := ⟨f - 1, by omega⟩
    by_cases hlt : i < s.length
    · have hdr := drop_at hlt
      obtain ⟨u, hu⟩ : ∃ u, s.drop (i + 1) = u := ⟨_, rfl⟩
      rw [hdr, hu] at hE
      repeat' (first | ((with_reducible refine brC (fun _ => ?_) fun _ => ?_) <;> try (exfalso; omega)) | (with_reducible refine And.intro ?_ ?_; · omega) | simp -dsimp -implicitDefEqProofs (disch := omega) only [↓vcOps_sp 35, ↓vcD_sp 35, ↓vcOps_sp 60, ↓vcD_sp 60, ↓vcOps_sp 83, ↓vcD_sp 83, ↓vcOps_sp 105, ↓vcD_sp 105, ↓vcOps_sp 110, ↓vcD_sp 110, ↓vcOps_sp 134, ↓vcD_sp 134, VCA, pg_gl, ↓upd_none, Nat.reduceEqDiff, Nat.reduceBEq, Nat.reduceAdd, Nat.reduceSub, Nat.reduceMul, Nat.reduceLT, Nat.reduceLeDiff, ↓reduceIte, reduceCtorEq, rsOf, rootsOf, SOp.rd, SI.rd, SX.rd, rdL, rdO, rdP, okParts, eqCells, okEqCells, fillA, okFill, setAt, implies_true, forall_const, forall_eq, ne_eq, exists_eq_right_right, exists_eq_right, exists_eq_left, exists_eq_left', rootL, eAttr, eInt, eBool, lit_eq, e0, e2, e3, e10, e11, g2, g11])
      all_goals try (exfalso; omega)
      refine LoopVC.intro (fun m e h'' => ∃ j, m = s.length - j ∧ i + 1 ≤ j ∧ j ≤ s.length ∧ e 0 = .str s ∧ e 2 = .vp r2 0 ∧ e 3 = .bool false ∧ e 10 = aInt j ∧ e 11 = .vp r11 0 ∧ e 12 = aInt (i + 1) ∧ h'' = h' ∧
          (cutB 61 u).1.length + (i + 1) = j + (cutB 61 (s.drop j)).1.length ∧ (cutB 61 u).2 = (cutB 61 (s.drop j)).2) (s.length - (i + 1))
        ⟨i + 1, rfl, Nat.le_refl _, by omega, by simp [upd, e0], by simp [upd, e2], by simp [upd, e3], by simp [upd], by simp [upd, e11], by simp [upd], rfl, by rw [hu]; omega, by rw [hu]⟩ ?_
      clear e0 e2 e3 e10 e11
      rintro m e h'' ⟨j, rfl, hj0, hj1, e0, e2, e3, e10, e11, e12, rfl, hL, hR⟩
      by_cases hj : j < s.length
      · obtain ⟨d, hd⟩ : ∃ d, s.getD j 0 = d := ⟨_, rfl⟩
        by_cases d61 : d = 61
        · have b61 : ((d.toNat : Int) != 61) = false := by rw [d61]; rfl
          rw [cut_here hj (by rw [hd, d61])] at hL hR
          simp only [List.length_nil] at hL hR
          have qv := quotedAt_ok (G := G) s hs (j + 1) (by omega)
          unfold quotV at qv
          rw [atsH_b hR] at hE
          have cj : ((j + 1 : Nat) : Int) = (j : Int) + 1 := by omega
          rw [cj] at qv
          have nmA : (cutB 61 u).1 = (s.drop (i + 1)).take (j - (i + 1)) := by
            rw [← cut_take 61 u, hu, show (cutB 61 u).1.length = j - (i + 1) by omega]
          have nmB : (cutB 61 u).1 = (s.take j).drop (i + 1) := by rw [nmA, List.drop_take]
          obtain ⟨w, hw⟩ : ∃ w, (cutB 61 u).1 = w := ⟨_, rfl⟩
          rw [hw] at nmA nmB hE
          rcases hq : inq qtL (s.drop (j + 1)) with _ | ⟨y, r⟩
          · rw [hq] at qv hE
            simp only [outH] at qv
            simp only [List.append_nil] at hE
            repeat' (first | ((with_reducible refine brC (fun _ => ?_) fun _ => ?_) <;> try (exfalso; omega)) | (with_reducible apply pcallE.of; · exact qv) | (with_reducible refine And.intro ?_ ?_; · omega) | simp -dsimp -implicitDefEqProofs (disch := omega) only [↓vcOps_sp 35, ↓vcD_sp 35, ↓vcOps_sp 60, ↓vcD_sp 60, ↓vcOps_sp 83, ↓vcD_sp 83, ↓vcOps_sp 105, ↓vcD_sp 105, ↓vcOps_sp 110, ↓vcD_sp 110, ↓vcOps_sp 134, ↓vcD_sp 134, VCA, pg_gl, ↓upd_none, Nat.reduceEqDiff, Nat.reduceBEq, Nat.reduceAdd, Nat.reduceSub, Nat.reduceMul, Nat.reduceLT, Nat.reduceLeDiff, ↓reduceIte, reduceCtorEq, rsOf, rootsOf, SOp.rd, SI.rd, SX.rd, rdL, rdO, rdP, okParts, eqCells, okEqCells, fillA, okFill, setAt, implies_true, forall_const, forall_eq, ne_eq, exists_eq_right_right, exists_eq_right, exists_eq_left, exists_eq_left', rootL, eAttr, eInt, eBool, lit_eq, e0, e2, e3, e10, e11, e12, g2, g11, hd, b61])
            all_goals try (exfalso; omega)
            all_goals exact fin D x _ false (A.keepA x2 _) (S.upd hr2) hE
          · have qs := qt_suf hq
            rw [hq] at qv hE
            simp only [outH] at qv
            simp only at hE
            obtain ⟨E, hEn⟩ : ∃ E, s.length - r.length = E := ⟨_, rfl⟩
            have hEi : (s.length : Int) - r.length = E := by omega
            rw [hEi] at qv
            rw [hEn] at qs
            obtain ⟨s1, s2, s3⟩ := qs
            have nEn : decide ((E : Int) < 0) = false := decide_eq_false (by omega)
            have tj : ((j : Int)).toNat = j := by omega
            have ti1 : ((i : Int) + 1).toNat = i + 1 := by omega
            by_cases hr0 : r = []
            · rw [if_pos hr0] at hE
              have hE0 : E = s.length := by rw [hr0] at hEn; simpa using hEn.symm
              repeat' (first | ((with_reducible refine brC (fun _ => ?_) fun _ => ?_) <;> try (exfalso; omega)) | (with_reducible apply pcallE.of; · exact qv) | (with_reducible refine And.intro ?_ ?_; · omega) | simp -dsimp -implicitDefEqProofs (disch := omega) only [↓vcOps_sp 35, ↓vcD_sp 35, ↓vcOps_sp 60, ↓vcD_sp 60, ↓vcOps_sp 83, ↓vcD_sp 83, ↓vcOps_sp 105, ↓vcD_sp 105, ↓vcOps_sp 110, ↓vcD_sp 110, ↓vcOps_sp 134, ↓vcD_sp 134, VCA, pg_gl, ↓upd_none, Nat.reduceEqDiff, Nat.reduceBEq, Nat.reduceAdd, Nat.reduceSub, Nat.reduceMul, Nat.reduceLT, Nat.reduceLeDiff, ↓reduceIte, reduceCtorEq, rsOf, rootsOf, SOp.rd, SI.rd, SX.rd, rdL, rdO, rdP, okParts, eqCells, okEqCells, fillA, okFill, setAt, implies_true, forall_const, forall_eq, ne_eq, exists_eq_right_right, exists_eq_right, exists_eq_left, exists_eq_left', rootL, eAttr, eInt, eBool, lit_eq, e0, e2, e3, e10, e11, e12, g2, g11, hd, b61, nEn, tj, ti1])
              all_goals try (exfalso; omega)
              rw [← nmB]
              refine A.appW S (by simp; omega) (by simp; omega) (fun a' h4 A' S' kp => ?_)
              obtain ⟨f11, p11⟩ := kp r11 _ g11 x11
              obtain ⟨f2, p2⟩ := kp r2 _ g2 x2
              obtain ⟨va, ca⟩ : isV a' = true ∧ cellsOf a' = [a'] := by rcases A' with ⟨_, rfl⟩ | ⟨_, _, _, rfl⟩ <;> exact ⟨rfl, rfl⟩
              refine ⟨fun q hq _ => by rw [List.mem_singleton] at hq; subst hq; show h4 r11 = h'' r11; rw [f11, g11], ?_⟩
              replace A' : Acc h 43 2 ((D ++ ([⟨w, y⟩] : List HAttr)).map eAttr) a' h4 := by rw [List.map_append]; exact A'
              repeat' (first | ((with_reducible refine brC (fun _ => ?_) fun _ => ?_) <;> try (exfalso; omega)) | (with_reducible refine And.intro ?_ ?_; · omega) | simp -dsimp -implicitDefEqProofs (disch := omega) only [↓vcOps_sp 35, ↓vcD_sp 35, ↓vcOps_sp 60, ↓vcD_sp 60, ↓vcOps_sp 83, ↓vcD_sp 83, ↓vcOps_sp 105, ↓vcD_sp 105, ↓vcOps_sp 110, ↓vcD_sp 110, ↓vcOps_sp 134, ↓vcD_sp 134, VCA, pg_gl, ↓upd_none, Nat.reduceEqDiff, Nat.reduceBEq, Nat.reduceAdd, Nat.reduceSub, Nat.reduceMul, Nat.reduceLT, Nat.reduceLeDiff, ↓reduceIte, reduceCtorEq, rsOf, rootsOf, SOp.rd, SI.rd, SX.rd, rdL, rdO, rdP, okParts, eqCells, okEqCells, fillA, okFill, setAt, implies_true, forall_const, forall_eq, ne_eq, exists_eq_right_right, exists_eq_right, exists_eq_left, exists_eq_left', rootL, eAttr, eInt, eBool, lit_eq, e0, e2, e3, e10, e11, e12, f2, f11, upd_same, n112, n211, va, ca])
              all_goals try (exfalso; omega)
              refine ⟨s.length - E, by omega, f, D ++ ([⟨w, y⟩] : List HAttr), a', E, rfl, by omega, by omega, rfl, rfl, A'.keepA p11 _, p2, p11, S'.upd hr11, by rw [List.length_append, List.length_singleton]; omega, ?_⟩
              obtain ⟨g, rfl⟩ : ∃ g, f = g + 1 := ⟨f - 1, by omega⟩
              rw [← hE, hE0, List.drop_length]
              show (D ++ [_] ++ [], true) = _
              rw [List.append_nil]
            · rw [if_neg hr0] at hE
              have hrp := List.length_pos_iff.2 hr0
              have hEl : E < s.length := by omega
              obtain ⟨v, hv⟩ : ∃ v, s.getD E 0 = v := ⟨_, rfl⟩
              have hrh : r.head? = some v := by rw [s2, drop_at hEl, hv]; rfl
              rw [hrh] at hE
              by_cases v32 : v = 32
              · rw [if_pos (by rw [v32])] at hE
                have b32 : ((v.toNat : Int) != 32) = false := by rw [v32]; rfl
                repeat' (first | ((with_reducible refine brC (fun _ => ?_) fun _ => ?_) <;> try (exfalso; omega)) | (with_reducible apply pcallE.of; · exact qv) | (with_reducible refine And.intro ?_ ?_; · omega) | simp -dsimp -implicitDefEqProofs (disch := omega) only [↓vcOps_sp 35, ↓vcD_sp 35, ↓vcOps_sp 60, ↓vcD_sp 60, ↓vcOps_sp 83, ↓vcD_sp 83, ↓vcOps_sp 105, ↓vcD_sp 105, ↓vcOps_sp 110, ↓vcD_sp 110, ↓vcOps_sp 134, ↓vcD_sp 134, VCA, pg_gl, ↓upd_none, Nat.reduceEqDiff, Nat.reduceBEq, Nat.reduceAdd, Nat.reduceSub, Nat.reduceMul, Nat.reduceLT, Nat.reduceLeDiff, ↓reduceIte, reduceCtorEq, rsOf, rootsOf, SOp.rd, SI.rd, SX.rd, rdL, rdO, rdP, okParts, eqCells, okEqCells, fillA, okFill, setAt, implies_true, forall_const, forall_eq, ne_eq, exists_eq_right_right, exists_eq_right, exists_eq_left, exists_eq_left', rootL, eAttr, eInt, eBool, lit_eq, e0, e2, e3, e10, e11, e12, g2, g11, hd, b61, nEn, hv, b32, tj, ti1])
                all_goals try (exfalso; omega)
                rw [← nmB]
                refine A.appW S (by simp; omega) (by simp; omega) (fun a' h4 A' S' kp => ?_)
                obtain ⟨f11, p11⟩ := kp r11 _ g11 x11
                obtain ⟨f2, p2⟩ := kp r2 _ g2 x2
                obtain ⟨va, ca⟩ : isV a' = true ∧ cellsOf a' = [a'] := by rcases A' with ⟨_, rfl⟩ | ⟨_, _, _, rfl⟩ <;> exact ⟨rfl, rfl⟩
                refine ⟨fun q hq _ => by rw [List.mem_singleton] at hq; subst hq; show h4 r11 = h'' r11; rw [f11, g11], ?_⟩
                replace A' : Acc h 43 2 ((D ++ ([⟨w, y⟩] : List HAttr)).map eAttr) a' h4 := by rw [List.map_append]; exact A'
                repeat' (first | ((with_reducible refine brC (fun _ => ?_) fun _ => ?_) <;> try (exfalso; omega)) | (with_reducible refine And.intro ?_ ?_; · omega) | simp -dsimp -implicitDefEqProofs (disch := omega) only [↓vcOps_sp 35, ↓vcD_sp 35, ↓vcOps_sp 60, ↓vcD_sp 60, ↓vcOps_sp 83, ↓vcD_sp 83, ↓vcOps_sp 105, ↓vcD_sp 105, ↓vcOps_sp 110, ↓vcD_sp 110, ↓vcOps_sp 134, ↓vcD_sp 134, VCA, pg_gl, ↓upd_none, Nat.reduceEqDiff, Nat.reduceBEq, Nat.reduceAdd, Nat.reduceSub, Nat.reduceMul, Nat.reduceLT, Nat.reduceLeDiff, ↓reduceIte, reduceCtorEq, rsOf, rootsOf, SOp.rd, SI.rd, SX.rd, rdL, rdO, rdP, okParts, eqCells, okEqCells, fillA, okFill, setAt, implies_true, forall_const, forall_eq, ne_eq, exists_eq_right_right, exists_eq_right, exists_eq_left, exists_eq_left', rootL, eAttr, eInt, eBool, lit_eq, e0, e2, e3, e10, e11, e12, f2, f11, upd_same, n112, n211, va, ca, b32, hv])
                all_goals try (exfalso; omega)
                · have hr1 : r.length = 1 := by omega
                  rw [if_pos hr1] at hE
                  exact fin _ a' _ false ((A'.keepA p11 _).keepA p2 _) ((S'.upd hr11).upd hr2) hE
                · have hr1 : ¬ r.length = 1 := by omega
                  rw [if_neg hr1] at hE
                  refine ⟨s.length - E, by omega, f, D ++ ([⟨w, y⟩] : List HAttr), a', E, rfl, by omega, by omega, rfl, rfl, A'.keepA p11 _, p2, p11, S'.upd hr11, by rw [List.length_append, List.length_singleton]; omega, ?_⟩
                  rw [← s2, ← hE]; simp
              · rw [if_neg (fun q => v32 (by cases q; rfl))] at hE
                simp only [List.append_nil] at hE
                have b32 : ((v.toNat : Int) != 32) = true := by rw [bne_iff_ne]; intro hh; exact v32 (bt_inj (by simpa using hh))
                repeat' (first | ((with_reducible refine brC (fun _ => ?_) fun _ => ?_) <;> try (exfalso; omega)) | (with_reducible apply pcallE.of; · exact qv) | (with_reducible refine And.intro ?_ ?_; · omega) | simp -dsimp -implicitDefEqProofs (disch := omega) only [↓vcOps_sp 35, ↓vcD_sp 35, ↓vcOps_sp 60, ↓vcD_sp 60, ↓vcOps_sp 83, ↓vcD_sp 83, ↓vcOps_sp 105, ↓vcD_sp 105, ↓vcOps_sp 110, ↓vcD_sp 110, ↓vcOps_sp 134, ↓vcD_sp 134, VCA, pg_gl, ↓upd_none, Nat.reduceEqDiff, Nat.reduceBEq, Nat.reduceAdd, Nat.reduceSub, Nat.reduceMul, Nat.reduceLT, Nat.reduceLeDiff, ↓reduceIte, reduceCtorEq, rsOf, rootsOf, SOp.rd, SI.rd, SX.rd, rdL, rdO, rdP, okParts, eqCells, okEqCells, fillA, okFill, setAt, implies_true, forall_const, forall_eq, ne_eq, exists_eq_right_right, exists_eq_right, exists_eq_left, exists_eq_left', rootL, eAttr, eInt, eBool, lit_eq, e0, e2, e3, e10, e11, e12, g2, g11, hd, b61, nEn, hv, b32])
                all_goals try (exfalso; omega)
                all_goals exact fin D x _ false (A.keepA x2 _) (S.upd hr2) hE
        · have b61 : ((d.toNat : Int) != 61) = true := by rw [bne_iff_ne]; intro hh; exact d61 (bt_inj (by simpa using hh))
          have st := cut_step (b := 61) hj hd d61
          repeat' (first | ((with_reducible refine brC (fun _ => ?_) fun _ => ?_) <;> try (exfalso; omega)) | (with_reducible refine And.intro ?_ ?_; · omega) | simp -dsimp -implicitDefEqProofs (disch := omega) only [↓vcOps_sp 35, ↓vcD_sp 35, ↓vcOps_sp 60, ↓vcD_sp 60, ↓vcOps_sp 83, ↓vcD_sp 83, ↓vcOps_sp 105, ↓vcD_sp 105, ↓vcOps_sp 110, ↓vcD_sp 110, ↓vcOps_sp 134, ↓vcD_sp 134, VCA, pg_gl, ↓upd_none, Nat.reduceEqDiff, Nat.reduceBEq, Nat.reduceAdd, Nat.reduceSub, Nat.reduceMul, Nat.reduceLT, Nat.reduceLeDiff, ↓reduceIte, reduceCtorEq, rsOf, rootsOf, SOp.rd, SI.rd, SX.rd, rdL, rdO, rdP, okParts, eqCells, okEqCells, fillA, okFill, setAt, implies_true, forall_const, forall_eq, ne_eq, exists_eq_right_right, exists_eq_right, exists_eq_left, exists_eq_left', rootL, eAttr, eInt, eBool, lit_eq, e0, e2, e3, e10, e11, e12, g2, g11, hd, b61])
          all_goals try (exfalso; omega)
          all_goals exact ⟨_, by omega, j + 1, rfl, by omega, by omega, by omega, by rw [st.1] at hL; omega, by rw [hR, st.2]⟩
      · rw [cut_end (by omega)] at hL hR
        rw [atsH_a hR] at hE
        simp only [List.append_nil] at hE
        repeat' (first | ((with_reducible refine brC (fun _ => ?_) fun _ => ?_) <;> try (exfalso; omega)) | (with_reducible refine And.intro ?_ ?_; · omega) | simp -dsimp -implicitDefEqProofs (disch := omega) only [↓vcOps_sp 35, ↓vcD_sp 35, ↓vcOps_sp 60, ↓vcD_sp 60, ↓vcOps_sp 83, ↓vcD_sp 83, ↓vcOps_sp 105, ↓vcD_sp 105, ↓vcOps_sp 110, ↓vcD_sp 110, ↓vcOps_sp 134, ↓vcD_sp 134, VCA, pg_gl, ↓upd_none, Nat.reduceEqDiff, Nat.reduceBEq, Nat.reduceAdd, Nat.reduceSub, Nat.reduceMul, Nat.reduceLT, Nat.reduceLeDiff, ↓reduceIte, reduceCtorEq, rsOf, rootsOf, SOp.rd, SI.rd, SX.rd, rdL, rdO, rdP, okParts, eqCells, okEqCells, fillA, okFill, setAt, implies_true, forall_const, forall_eq, ne_eq, exists_eq_right_right, exists_eq_right, exists_eq_left, exists_eq_left', rootL, eAttr, eInt, eBool, lit_eq, e0, e2, e3, e10, e11, e12, g2, g11])
        all_goals try (exfalso; omega)
        all_goals exact fin D x _ false (A.keepA x2 _) (S.upd hr2) hE
    · have hdr : s.drop i = [] := List.drop_of_length_le (by omega)
      rw [hdr] at hE
      have ha : atsH (f + 1) [] = ([], true) := rfl
      rw [ha, List.append_nil] at hE
      repeat' (first | ((with_reducible refine brC (fun _ => ?_) fun _ => ?_) <;> try (exfalso; omega)) | (with_reducible refine And.intro ?_ ?_; · omega) | simp -dsimp -implicitDefEqProofs (disch := omega) only [↓vcOps_sp 35, ↓vcD_sp 35, ↓vcOps_sp 60, ↓vcD_sp 60, ↓vcOps_sp 83, ↓vcD_sp 83, ↓vcOps_sp 105, ↓vcD_sp 105, ↓vcOps_sp 110, ↓vcD_sp 110, ↓vcOps_sp 134, ↓vcD_sp 134, VCA, pg_gl, ↓upd_none, Nat.reduceEqDiff, Nat.reduceBEq, Nat.reduceAdd, Nat.reduceSub, Nat.reduceMul, Nat.reduceLT, Nat.reduceLeDiff, ↓reduceIte, reduceCtorEq, rsOf, rootsOf, SOp.rd, SI.rd, SX.rd, rdL, rdO, rdP, okParts, eqCells, okEqCells, fillA, okFill, setAt, implies_true, forall_const, forall_eq, ne_eq, exists_eq_right_right, exists_eq_right, exists_eq_left, exists_eq_left', rootL, eAttr, eInt, eBool, lit_eq, e0, e2, e3, e10, e11, g2, g11])
      all_goals try (exfalso; omega)
      all_goals exact fin D x _ true (A.keepA x2 _) (S.upd hr2) hE)
end Go.Proofs.K
end
section
set_option linter.unusedSimpArgs false
set_option linter.unusedVariables false
namespace Go.Proofs.K
open Go Go.Sim Go.Proofs
def lastN (deep : List Int) : Int := if deep = [] then -1 else nth deep (deep.length - 1)
structure PD (path deep : List Int) : Prop where
  len : (path.length : Int) = lastN deep + 2
  top : nth path 0 = 0
  at_ : ∀ k, k + 1 < path.length → ∃ i, i < deep.length ∧ nth path (k + 1) = i + 1 ∧ nth deep i = k ∧ ∀ j, i < j → j < deep.length → nth deep j ≠ k
theorem PD.nil : PD [0] [] := ⟨by simp [lastN], rfl, fun k hk => by simp at hk⟩
theorem nth_lo {l : List Int} {x : Int} {i : Nat} (h : i < l.length) : nth (l ++ [x]) i = nth l i := nth_app_lo h
theorem nth_take {l : List Int} {n i : Nat} (h : i < n) (hl : i < l.length) : nth (l.take n) i = nth l i := by
  unfold nth; rw [List.getD_eq_getElem?_getD, List.getD_eq_getElem?_getD, List.getElem?_take, if_pos h]
theorem PD.next {path deep : List Int} (P : PD path deep) {n : Nat} (hn : n < path.length) : PD (path.take (n + 1) ++ [(deep.length : Int) + 1]) (deep ++ [(n : Int)]) := by
  have lt : (path.take (n + 1)).length = n + 1 := by rw [List.length_take]; omega
  have ld : lastN (deep ++ [(n : Int)]) = n := by
    unfold lastN
    rw [if_neg (by simp), List.length_append, List.length_singleton, Nat.add_sub_cancel]
    exact nth_app_at
  refine ⟨by rw [ld, List.length_append, lt, List.length_singleton]; omega, ?_, fun k hk => ?_⟩
  · rw [nth_lo (by omega), nth_take (by omega) (by omega)]; exact P.top
  · rw [List.length_append, lt, List.length_singleton] at hk
    by_cases hkn : k = n
    · subst hkn
      refine ⟨deep.length, by simp, ?_, nth_app_at, fun j h1 h2 => by simp at h2; omega⟩
      have := nth_app_at (l := path.take (k + 1)) (x := (deep.length : Int) + 1)
      rw [lt] at this
      exact this
    · obtain ⟨i, h1, h2, h3, h4⟩ := P.at_ k (by omega)
      refine ⟨i, by simp; omega, by rw [nth_lo (by omega), nth_take (by omega) (by omega)]; exact h2, by rw [nth_lo h1]; exact h3, fun j q1 q2 => ?_⟩
      rw [List.length_append, List.length_singleton] at q2
      by_cases hj : j = deep.length
      · subst hj; rw [nth_app_at]; omega
      · rw [nth_lo (by omega)]; exact h4 j q1 (by omega)
theorem str_none : ∀ (f : Nat) (d : HDoc) (path : List Int) (rest : List UInt8), rest.length < f → rest ≠ [] → rest.getD (rest.length - 1) 0 ≠ 10 → strF f d path rest = none
  | 0, _, _, _, h, _, _ => by omega
  | f + 1, d, path, rest, h, h0, h1 => by
    unfold strF
    rw [if_neg h0]
    split
    · rfl
    · rename_i h2
      cases hr : (cutB 10 rest).2 with
      | none => exact absurd (.inl hr) h2
      | some r =>
        have e := (cutB_is (b := 10) rest).2
        rw [hr] at e
        simp only at e
        obtain ⟨a, ha⟩ : ∃ a, (cutB 10 rest).1 = a := ⟨_, rfl⟩
        rw [ha] at e
        have hl := congrArg List.length e
        rw [List.length_append, List.length_cons] at hl
        have hr0 : r ≠ [] := fun q => by
          apply h1
          subst q
          rw [e]; simp
        have hrp := List.length_pos_iff.2 hr0
        rw [Option.getD_some]
        refine str_none f _ _ _ (by omega) hr0 (fun q => h1 ?_)
        rw [← q, hl, e, List.getD_eq_getElem?_getD, List.getD_eq_getElem?_getD, List.getElem?_append_right (by omega)]
        rw [show a.length + (r.length + 1) - 1 - a.length = (r.length - 1) + 1 by omega, List.getElem?_cons_succ]
theorem cut_ends {rest : List UInt8} (h0 : rest ≠ []) (h1 : rest.getD (rest.length - 1) 0 = 10) : ∃ r, (cutB 10 rest).2 = some r ∧ (r = [] ∨ r.getD (r.length - 1) 0 = 10) := by
  have e := (cutB_is (b := 10) rest).2
  have hn := (cutB_is (b := 10) rest).1
  cases hr : (cutB 10 rest).2 with
  | none =>
    rw [hr] at e
    simp only [List.append_nil] at e
    exfalso
    rw [← e] at hn
    have hp := List.length_pos_iff.2 h0
    apply hn
    rw [← h1, List.getD_eq_getElem?_getD, List.getElem?_eq_getElem (by omega)]
    exact List.getElem_mem _
  | some r =>
    refine ⟨r, rfl, ?_⟩
    rw [hr] at e
    simp only at e
    by_cases hr0 : r = []
    · exact .inl hr0
    · right
      have hrp := List.length_pos_iff.2 hr0
      obtain ⟨a, ha⟩ : ∃ a, (cutB 10 rest).1 = a := ⟨_, rfl⟩
      rw [ha] at e
      have hl := congrArg List.length e
      rw [List.length_append, List.length_cons] at hl
      rw [← h1, hl]
      conv => rhs; rw [e]
      rw [List.getD_eq_getElem?_getD, List.getD_eq_getElem?_getD, List.getElem?_append_right (by omega)]
      rw [show a.length + (r.length + 1) - 1 - a.length = (r.length - 1) + 1 by omega, List.getElem?_cons_succ]
end Go.Proofs.K
end
section
set_option linter.unusedSimpArgs false
set_option linter.unusedVariables false
namespace Go.Proofs.K
open Go Go.Sim Go.Proofs
variable {G : Glob}
theorem OwnS.app {h : Heap} {ty sz b : Nat} {cells es2 : List (List AVal)} {a : AVal} (O : OwnS h ty sz cells a) (M : Mut a) (h1 : (cells.length + es2.length) * b ≤ 140737488355328) (h2 : cells.length + es2.length ≤ 140737488355328) {K : AVal → Heap → Prop}
    (hk : ∀ r' h'', h'' r' = some ⟨ty, sz, cells ++ es2⟩ → (rootOf a = some r' ∨ h r' = none) → (∀ r o, h r = some o → rootOf a ≠ some r → h'' r = some o) → K (.osl r' sz 0 (cells.length + es2.length)) h'') : Hd (appE ty sz b a es2 h) K .mk := by
  rcases O.live M with ⟨rfl, rfl⟩ | ⟨r, es, rfl, hr, hl, ht⟩
  · refine ⟨by simpa using h1, by simpa using h2, fun r hr => ?_⟩
    have := hk r (upd h r (some ⟨ty, sz, es2⟩)) (by simp) (.inr hr) (fun t o ho _ => by rw [upd_ne _ _ (fun e => by rw [e, hr] at ho; cases ho)]; exact ho)
    simpa using this
  · refine ⟨rfl, _, hr, rfl, by simpa using hl, h1, h2, fun r' hr' => ?_⟩
    have hr2 : r' = r ∨ h r' = none := by
      unfold del at hr'
      split at hr'
      · rename_i e; exact .inl e
      · exact .inr hr'
    refine hk r' _ (by simp [ht]) ?_ fun t o ho hne => ?_
    · rcases hr2 with e | e
      · left; rw [e]; rfl
      · exact .inr e
    · have e1 : t ≠ r := fun e => hne (by rw [e]; rfl)
      have e2 : t ≠ r' := fun e => by
        rcases hr2 with e3 | e3
        · exact e1 (e.trans e3)
        · rw [e, e3] at ho; cases ho
      rw [upd_ne _ _ e2]; unfold del; rw [if_neg e1]; exact ho
theorem rowsA_add {d : HDoc} {x : HNode} {sl : Nat → AVal} {a : AVal} : rowsA (addN d x) (upd (upd sl (2 * d.nodes.length) a) (2 * d.nodes.length + 1) .emp) = rowsA d sl ++ [rowA x a .emp] := by
  unfold rowsA
  rw [addN_len, List.range_succ, List.map_append, List.map_cons, List.map_nil]
  congr 1
  · refine List.map_congr_left fun i hi => ?_
    have hi := List.mem_range.1 hi
    rw [upd_ne _ _ (by omega), upd_ne _ _ (by omega), upd_ne _ _ (by omega), upd_ne _ _ (by omega)]
    have : nth (addN d x).nodes i = nth d.nodes i := by
      unfold addN nth; rw [List.getD_eq_getElem?_getD, List.getD_eq_getElem?_getD, List.getElem?_append_left hi]
    rw [this]
  · rw [upd_same, upd_ne _ _ (by omega), upd_same]
    have : nth (addN d x).nodes d.nodes.length = x := by unfold addN nth; rw [List.getD_eq_getElem?_getD]; simp
    rw [this]
theorem Dw.mono {X : List Nat} {h0 h h2 : Heap} {rN : Nat} {d : HDoc} {sl : Nat → AVal} (E : Dw X h0 h rN d sl) (S : Sim.Sub h h2) : Dw X h0 h2 rN d sl :=
  ⟨E.sub.trans S, S _ _ E.nodes, E.new, fun i hi => ⟨(E.own i hi).1.keep fun r o _ ho => S _ _ ho, (E.own i hi).2.keep fun r o _ ho => S _ _ ho⟩, E.fresh, E.sep, fun r hr => by obtain ⟨o, ho⟩ := E.keep r hr; exact ⟨o, S _ _ ho⟩⟩
theorem Dw.add {X : List Nat} {h0 h h2 : Heap} {rN rN' : Nat} {d : HDoc} {sl : Nat → AVal} (E : Dw X h0 h rN d sl) {x : HNode} {a' : AVal} (hk : x.kids = [])
    (hN : h2 rN' = some ⟨.t 53, 6, rowsA d sl ++ [rowA x a' .emp]⟩)
    (kp : ∀ r o, h r = some o → r ≠ rN → h2 r = some o) (O : OwnS h2 43 2 (x.attrs.map eAttr) a') (fr : ∀ r, rootOf a' = some r → h0 r = none ∧ r ∉ X ∧ r ≠ rN' ∧ ∀ k, k < 2 * d.nodes.length → rootOf (sl k) ≠ some r) (fN : rN' = rN ∨ h rN' = none) :
    Dw X h0 h2 rN' (addN d x) (upd (upd sl (2 * d.nodes.length) a') (2 * d.nodes.length + 1) .emp) := by
  have hold : ∀ k, k < 2 * d.nodes.length → upd (upd sl (2 * d.nodes.length) a') (2 * d.nodes.length + 1) .emp k = sl k := fun k hk => by rw [upd_ne _ _ (by omega), upd_ne _ _ (by omega)]
  have hnew : upd (upd sl (2 * d.nodes.length) a') (2 * d.nodes.length + 1) .emp (2 * d.nodes.length) = a' := by rw [upd_ne _ _ (by omega), upd_same]
  have hnew2 : upd (upd sl (2 * d.nodes.length) a') (2 * d.nodes.length + 1) AVal.emp (2 * d.nodes.length + 1) = .emp := upd_same _ _ _
  have some_ne : ∀ r o, h r = some o → r ≠ rN → r ≠ rN' := fun r o ho hne e => by
    rcases fN with h1 | h1
    · exact hne (e.trans h1)
    · rw [e, h1] at ho; cases ho
  generalize hs : upd (upd sl (2 * d.nodes.length) a') (2 * d.nodes.length + 1) .emp = sl' at *
  have rws : rowsA (addN d x) sl' = rowsA d sl ++ [rowA x a' .emp] := by rw [← hs]; exact rowsA_add
  have nX : ∀ r, h r = none → r ∉ X := fun r hr q => by obtain ⟨o, ho⟩ := E.keep r q; rw [hr] at ho; cases ho
  have fa : ∀ r, rootOf a' = some r → h0 r = none ∧ r ≠ rN' ∧ r ∉ X := fun r hr => ⟨(fr r hr).1, (fr r hr).2.2.1, (fr r hr).2.1⟩
  have ks : ∀ k, k < 2 * (d.nodes.length + 1) → k < 2 * d.nodes.length ∨ k = 2 * d.nodes.length ∨ k = 2 * d.nodes.length + 1 := fun k hk => by omega
  have rne : ∀ k, k < 2 * d.nodes.length → ∀ r, rootOf (sl k) = some r → r ≠ rN := fun k hk r hr => (E.fresh k hk r hr).2.1
  refine ⟨fun t o ht => ?_, by rw [hN, rws], ⟨?_, ?_⟩, fun i hi => ?_, fun k hk' r hr => ?_, fun j k hj hk' hne r hr => ?_, fun r hr => ?_⟩
  · exact kp t o (E.sub t o ht) (fun e => by rw [e, E.new.1] at ht; cases ht)
  · rcases fN with h1 | h1
    · rw [h1]; exact E.new.1
    · exact E.sub.none h1
  · rcases fN with h1 | h1
    · rw [h1]; exact E.new.2
    · exact nX _ h1
  · rw [addN_len] at hi
    by_cases hl : i < d.nodes.length
    · have e1 : nth (addN d x).nodes i = nth d.nodes i := by
        unfold addN nth; rw [List.getD_eq_getElem?_getD, List.getD_eq_getElem?_getD, List.getElem?_append_left hl]
      rw [e1, hold _ (by omega), hold _ (by omega)]
      obtain ⟨g1, g2⟩ := E.own i hl
      exact ⟨g1.keep fun r o hr ho => kp r o ho (rne _ (by omega) r hr), g2.keep fun r o hr ho => kp r o ho (rne _ (by omega) r hr)⟩
    · have e0 : i = d.nodes.length := by omega
      subst e0
      have e1 : nth (addN d x).nodes d.nodes.length = x := by unfold addN nth; rw [List.getD_eq_getElem?_getD]; simp
      rw [e1, hnew, hnew2, hk]
      exact ⟨O, .inl ⟨rfl, rfl⟩⟩
  · rw [addN_len] at hk'
    rcases ks k hk' with h1 | h1 | h1
    · rw [hold k h1] at hr
      have := E.fresh k h1 r hr
      obtain ⟨o, ho⟩ := E.slot h1 hr
      exact ⟨this.1, some_ne r o ho this.2.1, this.2.2⟩
    · rw [h1, hnew] at hr; exact fa r hr
    · rw [h1, hnew2] at hr; cases hr
  · rw [addN_len] at hj hk'
    rcases ks j hj with h1 | h1 | h1
    · rw [hold j h1] at hr
      rcases ks k hk' with h2 | h2 | h2
      · rw [hold k h2]; exact E.sep j k h1 h2 hne r hr
      · rw [h2, hnew]; intro h3
        exact (fr r h3).2.2.2 j h1 hr
      · rw [h2, hnew2]; intro h3; cases h3
    · rw [h1, hnew] at hr
      rcases ks k hk' with h2 | h2 | h2
      · rw [hold k h2]; intro h3
        exact (fr r hr).2.2.2 k h2 h3
      · omega
      · rw [h2, hnew2]; intro h3; cases h3
    · rw [h1, hnew2] at hr; cases hr
  · obtain ⟨o, ho⟩ := E.keep r hr
    exact ⟨o, kp r o ho (fun e => E.new.2 (e ▸ hr))⟩
theorem Dw.rows {X : List Nat} {h0 h : Heap} {rN : Nat} {d : HDoc} {sl : Nat → AVal} (E : Dw X h0 h rN d sl) : OwnS h 53 6 (rowsA d sl) (.osl rN 6 0 d.nodes.length) ∧ Mut (.osl rN 6 0 d.nodes.length) :=
  ⟨.inr (.inr ⟨rN, _, by rw [rowsA_len], E.nodes, by rw [rowsA_len]; exact Nat.le_refl _, by rw [List.take_of_length_le (Nat.le_refl _)]⟩), fun es q => by cases q⟩
theorem Dw.new' {X : List Nat} {h0 h : Heap} {rN : Nat} {d : HDoc} {sl : Nat → AVal} (E : Dw X h0 h rN d sl) : Dw [] (fun _ => none) (newH h0 h) rN d sl :=
  ⟨(fun t o ht => by cases ht), by rw [newH_none E.new.1]; exact E.nodes, ⟨rfl, by simp⟩, fun i hi => ⟨(E.own i hi).1.keep fun r o hr ho => by rw [newH_none (E.fresh _ (by omega) r hr).1]; exact ho, (E.own i hi).2.keep fun r o hr ho => by rw [newH_none (E.fresh _ (by omega) r hr).1]; exact ho⟩,
    fun k hk r hr => ⟨rfl, (E.fresh k hk r hr).2.1, by simp⟩, E.sep, fun r hr => by cases hr⟩
theorem Dw.base {X : List Nat} {h0 h00 h : Heap} {rN : Nat} {d : HDoc} {sl : Nat → AVal} (E : Dw X h0 h rN d sl) (S : Sim.Sub h00 h0) : Dw X h00 h rN d sl :=
  ⟨S.trans E.sub, E.nodes, ⟨S.none E.new.1, E.new.2⟩, E.own, fun k hk r hr => ⟨S.none (E.fresh k hk r hr).1, (E.fresh k hk r hr).2⟩, E.sep, E.keep⟩
theorem Dw.beside {X : List Nat} {h0 h00 h : Heap} {rN r : Nat} {d : HDoc} {sl : Nat → AVal} {x : AObj} (E : Dw X h0 h rN d sl) (S : Sim.Sub h00 h0) (h1 : h0 r = some x) (h2 : h00 r = none) (hX : r ∉ X) (y : AObj) : Dw X h00 (upd h r (some y)) rN d sl := by
  have ne : ∀ t, h0 t = none → t ≠ r := fun t ht e => by rw [e, h1] at ht; cases ht
  refine ⟨(S.trans E.sub).upd h2, by rw [upd_ne _ _ (ne _ E.new.1)]; exact E.nodes, ⟨S.none E.new.1, E.new.2⟩, fun i hi => ?_, fun k hk t ht => ⟨S.none (E.fresh k hk t ht).1, (E.fresh k hk t ht).2⟩, E.sep, fun t ht => ?_⟩
  · obtain ⟨g1, g2⟩ := E.own i hi
    exact ⟨g1.keep fun t o ht ho => by rw [upd_ne _ _ (ne t (E.fresh _ (by omega) t ht).1)]; exact ho, g2.keep fun t o ht ho => by rw [upd_ne _ _ (ne t (E.fresh _ (by omega) t ht).1)]; exact ho⟩
  · obtain ⟨o, ho⟩ := E.keep t ht
    exact ⟨o, by rw [upd_ne _ _ (fun e => hX (by rw [← e]; exact ht))]; exact ho⟩
end Go.Proofs.K
end
section
set_option linter.unusedSimpArgs false
set_option linter.unusedVariables false
namespace Go.Proofs.K
open Go Go.Sim Go.Proofs
variable {G : Glob}
theorem Dw.kid {X : List Nat} {h0 h h3 : Heap} {rN r2 : Nat} {d : HDoc} {sl : Nat → AVal} (E : Dw X h0 h rN d sl) {i : Nat} (hi : i < d.nodes.length) {v : Int}
    (q1 : h3 r2 = some ⟨.t 3, 1, (nth d.nodes i).kids.map eInt ++ [[aInt v]]⟩) (q2 : rootOf (sl (2 * i + 1)) = some r2 ∨ h r2 = none) (q3 : ∀ r o, h r = some o → rootOf (sl (2 * i + 1)) ≠ some r → h3 r = some o) :
    Dw X h0 (upd h3 rN (some ⟨.t 53, 6, (rowsA d sl).set i (rowA { nth d.nodes i with kids := (nth d.nodes i).kids ++ [v] } (sl (2 * i)) (.osl r2 1 0 ((nth d.nodes i).kids.length + 1)))⟩)) rN
      ⟨d.nodes.set i { nth d.nodes i with kids := (nth d.nodes i).kids ++ [v] }, d.quirks⟩ (upd sl (2 * i + 1) (.osl r2 1 0 ((nth d.nodes i).kids.length + 1))) := by
  have HN := E.nodes
  have f2 := fun (r : Nat) (hr : rootOf (sl (2 * i + 1)) = some r) => E.fresh (2 * i + 1) (by omega) r hr
  have g1o := (E.own i hi).1
  have r2N : r2 ≠ rN := fun e => by
    rcases q2 with q | q
    · exact (f2 _ q).2.1 e
    · rw [e, HN] at q; cases q
  have fs1 : ∀ r, rootOf (sl (2 * i)) = some r → r ≠ rN ∧ rootOf (sl (2 * i + 1)) ≠ some r := fun r hr =>
    ⟨(E.fresh (2 * i) (by omega) r hr).2.1, fun q => E.sep (2 * i) (2 * i + 1) (by omega) (by omega) (by omega) r hr q⟩
  have w1 : upd sl (2 * i + 1) (.osl r2 1 0 ((nth d.nodes i).kids.length + 1)) (2 * i) = sl (2 * i) := upd_ne _ _ (by omega)
  have w2 : upd sl (2 * i + 1) (.osl r2 1 0 ((nth d.nodes i).kids.length + 1)) (2 * i + 1) = .osl r2 1 0 ((nth d.nodes i).kids.length + 1) := upd_same _ _ _
  refine E.put hi (fun t t1 t2 => upd_ne _ _ t2) (by rw [upd_same, w1, w2]) (fun r o ho t1 t2 t3 => by rw [upd_ne _ _ t1]; exact q3 r o ho t3) ?_ ?_ ?_ ?_
  · rw [w1]
    exact g1o.keep fun r o hr ho => by rw [upd_ne _ _ (fs1 r hr).1]; exact q3 r o ho (fs1 r hr).2
  · rw [w2]
    refine .inr (.inr ⟨r2, _, by simp, by rw [upd_ne _ _ r2N]; exact q1, by simp, ?_⟩)
    rw [List.take_of_length_le (by simp)]; simp; rfl
  · intro r hr
    rw [w1, w2] at hr
    rcases hr with hr | hr
    · exact .inl hr
    · cases hr
      rcases q2 with q | q
      · exact .inr (.inl q)
      · exact .inr (.inr q)
  · intro r hr q
    rw [w1] at hr
    rw [w2] at q
    cases q
    rcases q2 with q | q
    · exact (fs1 _ hr).2 q
    · obtain ⟨o, ho⟩ := g1o.root hr
      rw [ho] at q; cases q
def c17 : SFun := ⟨.seq (.reg [⟨some 0, .new 29 2 [.emp, .bool false], none⟩]) (.seq (.reg [⟨some 1, .bld [.int .i64 0, .str [], .emp, .str [], .int .i64 0, .emp] [(0, (1, (.c (.int .i64 1)))), (4, (1, (.c (.int .i64 (-1)))))], none⟩, ⟨some 2, .bldR 53 6 [.t 1], none⟩, ⟨some 3, .bld [.emp, .bool false] [(0, (1, (.t 2)))], none⟩, ⟨none, .st 2 (.t 0) (.t 3), none⟩]) .ret), [.cell 0 2 true]⟩
theorem hc17 : toSF Tryd.prog {how := [(2, 2)]} Tryd.f17 = some c17 := by kernel_rfl
theorem hn17 : (Tryd.f17.name == "runtime.NumGoroutine") = false := by kernel_rfl
theorem newOwn_ok (h : Heap) : DCalls (Pg G) 17 [] h fun a h' => ∃ rN, h rN = none ∧ a = .agg [.osl rN 6 0 1, .bool false] ∧ h' rN = some ⟨.t 53, 6, [[aInt 1, .str [], .emp, .str [], aInt (-1), .emp]]⟩ ∧ Sim.Sub h h' := by
  refine dcalls_of_vc Tryd.func17 hn17 hc17 (by rw [Tryd.ntmps17]; simp) (by rw [Tryd.ntmps17]; decide) ?_
  simp -dsimp -implicitDefEqProofs (disch := omega) only [VCA, pg_gl, ↓upd_none, Nat.reduceEqDiff, Nat.reduceBEq, Nat.reduceAdd, Nat.reduceSub, Nat.reduceMul, Nat.reduceLT, Nat.reduceLeDiff, ↓reduceIte, reduceCtorEq, rsOf, rootsOf, SOp.rd, SI.rd, SX.rd, rdL, rdO, rdP, okParts, eqCells, okEqCells, fillA, okFill, setAt, implies_true, forall_const, forall_eq, ne_eq, exists_eq_right_right, exists_eq_right, exists_eq_left, exists_eq_left', rootL, eAttr, eInt, eBool, lit_eq, eDoc, c17]
  intro r0 hr0 r1 hr1
  have n1 : ¬ r1 = r0 := hr1.1
  have n2 : ¬ r0 = r1 := fun q => n1 q.symm
  repeat' (first | ((with_reducible refine brC (fun _ => ?_) fun _ => ?_) <;> try (exfalso; omega)) | (with_reducible refine And.intro ?_ ?_; · omega) | simp -dsimp -implicitDefEqProofs (disch := omega) only [VCA, pg_gl, ↓upd_none, Nat.reduceEqDiff, Nat.reduceBEq, Nat.reduceAdd, Nat.reduceSub, Nat.reduceMul, Nat.reduceLT, Nat.reduceLeDiff, ↓reduceIte, reduceCtorEq, rsOf, rootsOf, SOp.rd, SI.rd, SX.rd, rdL, rdO, rdP, okParts, eqCells, okEqCells, fillA, okFill, setAt, implies_true, forall_const, forall_eq, ne_eq, exists_eq_right_right, exists_eq_right, exists_eq_left, exists_eq_left', rootL, eAttr, eInt, eBool, lit_eq, eDoc, upd_same, n1, n2])
  exact ⟨_, Sub.refl _, r1, hr1.2, rfl, by simp [upd, n1], (((Sub.refl h).upd hr0).upd hr1.2).upd hr0⟩
structure Bk (h0 h : Heap) (r4 rN : Nat) (d : HDoc) (sl : Nat → AVal) (path : List Int) (pa : AVal) : Prop where
  dw : Dw [r4] h0 h rN d sl
  r4n : h0 r4 = none
  doc : h r4 = some ⟨.t 29, 2, [[.osl rN 6 0 d.nodes.length, .bool d.quirks]]⟩
  pt : OwnS h 3 1 (path.map eInt) pa
  pm : Mut pa
  pn : ∀ r, rootOf pa = some r → h0 r = none ∧ r ≠ r4 ∧ r ≠ rN ∧ ∀ k, k < 2 * d.nodes.length → rootOf (sl k) ≠ some r
  live : ∀ i, i < d.nodes.length → Mut (sl (2 * i + 1))
theorem uq_sz : ∀ (n : Nat) (t : List UInt8), t.length ≤ n → ∀ x r, uqL t = some (x, r) → x.length + r.length < t.length
  | _, [], _, x, r, h => by cases h
  | 0, c :: t, hn, _, _, _ => by simp at hn
  | n + 1, c :: t, hn, x, r, h => by
    simp only [List.length_cons] at hn ⊢
    by_cases h1 : c = 34
    · subst h1; rw [uq_end] at h; cases h; simp
    · by_cases h2 : c ≠ 92 ∨ t.length < 2
      · rw [uq_other h1 h2, Option.map_eq_some_iff] at h
        obtain ⟨⟨y, z⟩, hy, he⟩ := h
        cases he
        have := uq_sz n t (by omega) y z hy
        show y.length + 1 + z.length < _
        omega
      · have h92 : c = 92 := Classical.byContradiction fun h => h2 (.inl h)
        subst h92
        match t, h2, h, hn with
        | [], h2, _, _ => exact absurd (.inr (by simp)) h2
        | [a], h2, _, _ => exact absurd (.inr (by simp)) h2
        | a :: b :: u, _, h, hn =>
          rw [uq_pair, Option.map_eq_some_iff] at h
          obtain ⟨⟨y, z⟩, hy, he⟩ := h
          cases he
          simp only [List.length_cons] at hn ⊢
          have := uq_sz n u (by omega) y z hy
          show y.length + 1 + z.length < _
          omega
theorem inq_sz {t x r : List UInt8} (h : inq uqL t = some (x, r)) : x.length + r.length < t.length := by
  cases t with
  | nil => cases h
  | cons c t =>
    unfold inq at h
    simp only at h
    split at h
    · have := uq_sz _ t (Nat.le_refl _) x r h
      simp only [List.length_cons]; omega
    · cases h
theorem fstQ_sz (t : List UInt8) : (fstQ (inq uqL t)).length ≤ t.length := by
  cases h : inq uqL t with
  | none => simp [fstQ]
  | some q => have := inq_sz (t := t) (x := q.1) (r := q.2) (by rw [h]); show q.1.length ≤ _; omega
theorem ats_sz : ∀ (f : Nat) (u : List UInt8), (atsP f u).length ≤ u.length + 1 ∧ ∀ a ∈ atsP f u, a.name.length ≤ u.length ∧ a.value.length ≤ u.length
  | 0, u => ⟨by simp [atsP], fun a ha => by cases ha⟩
  | f + 1, u => by
    have hl := cutB_len 61 u
    cases hq : inq uqL ((cutB 61 u).2.getD []) with
    | none => rw [atsP_off hq]; exact ⟨by simp, fun a ha => by cases ha⟩
    | some q =>
      obtain ⟨x, r⟩ := q
      have hz := inq_sz hq
      have hl3 := cutB_len 32 r
      rw [atsP_on hq]
      have ih : (atsO f (cutB 32 r).2).length ≤ r.length ∧ ∀ a ∈ atsO f (cutB 32 r).2, a.name.length ≤ r.length ∧ a.value.length ≤ r.length := by
        cases hc : (cutB 32 r).2 with
        | none => exact ⟨by simp [atsO], fun a ha => by cases ha⟩
        | some u' =>
          have h1 := hl3.2.2 u' hc
          obtain ⟨g1, g2⟩ := ats_sz f u'
          exact ⟨by show (atsP f u').length ≤ _; omega, fun a ha => by have := g2 a ha; omega⟩
      refine ⟨by rw [List.length_cons]; omega, fun a ha => ?_⟩
      rcases List.mem_cons.1 ha with rfl | ha
      · exact ⟨hl.1, by show x.length ≤ _; omega⟩
      · have := ih.2 a ha; omega
theorem nodeU_sm {t : List UInt8} (h : t.length ≤ 1000000) : NodeSm (nodeU t) := by
  have z0 := fstQ_sz t
  have z1 := fstQ_sz (t.drop 1)
  have hd : (t.drop 1).length ≤ t.length := by rw [List.length_drop]; omega
  have hl := cutB_len 32 t
  unfold nodeU
  split
  · exact ⟨by show (fstQ _).length ≤ _; omega, by simp, (fun a ha => by cases ha), by simp, by simp⟩
  split
  · exact ⟨by simp, by simp, (fun a ha => by cases ha), by show (fstQ _).length ≤ _; omega, by simp⟩
  split
  · exact ⟨by simp, by simp, (fun a ha => by cases ha), by show (fstQ _).length ≤ _; omega, by simp⟩
  · have ih : (atsO (t.length + 1) (cutB 32 t).2).length ≤ t.length + 1 ∧ ∀ a ∈ atsO (t.length + 1) (cutB 32 t).2, a.name.length ≤ t.length ∧ a.value.length ≤ t.length := by
      cases hc : (cutB 32 t).2 with
      | none => exact ⟨by simp [atsO], fun a ha => by cases ha⟩
      | some u' =>
        have h1 := hl.2.2 u' hc
        obtain ⟨g1, g2⟩ := ats_sz (t.length + 1) u'
        exact ⟨by show (atsP _ u').length ≤ _; omega, fun a ha => by have := g2 a ha; omega⟩
    exact ⟨by show (cutB 32 t).1.length ≤ _; omega, by show (atsO _ _).length ≤ _; omega, fun a ha => by have := ih.2 a ha; omega, by simp, by simp⟩
def SzB (d : HDoc) : Prop := 0 < d.nodes.length ∧ d.nodes.length ≤ 201 ∧ ∀ m, m < d.nodes.length → NodeSm (nth d.nodes m) ∧ (nth d.nodes m).kids.length ≤ d.nodes.length
theorem SzB.sm {d : HDoc} (S : SzB d) : DocSm d := ⟨by have := S.2.1; omega, fun x hx => by obtain ⟨j, hj, rfl⟩ := mem_nth hx; exact (S.2.2 j hj).1⟩
theorem SzB.kid {d : HDoc} (S : SzB d) {p : Int} (hp : p.toNat < d.nodes.length) {x : HNode} (hx : NodeSm x) (hk : x.kids = []) (h : d.nodes.length ≤ 200) : SzB (addKid d p x) := by
  refine ⟨by rw [addKid_len]; omega, by rw [addKid_len]; omega, fun m hm => ?_⟩
  rw [addKid_len] at hm ⊢
  by_cases hl : m < d.nodes.length
  · obtain ⟨h1, h2⟩ := S.2.2 m hl
    rw [addKid_old x hp hl]
    split
    · rename_i e
      subst e
      have h1' : NodeSm (nd d p) := h1
      have h2' : (nd d p).kids.length ≤ d.nodes.length := h2
      exact ⟨⟨h1'.name, h1'.attrs, h1'.each, h1'.text, by show ((nd d p).kids ++ _).length ≤ _; rw [List.length_append, List.length_singleton]; omega⟩, by show ((nd d p).kids ++ _).length ≤ _; rw [List.length_append, List.length_singleton]; omega⟩
    · exact ⟨h1, by omega⟩
  · obtain rfl : m = d.nodes.length := by omega
    rw [addKid_new]
    exact ⟨⟨hx.name, hx.attrs, hx.each, hx.text, hx.kids⟩, by show x.kids.length ≤ _; rw [hk]; simp⟩
end Go.Proofs.K
end
section
set_option linter.unusedSimpArgs false
set_option linter.unusedVariables false
namespace Go.Proofs.K
open Go Go.Sim Go.Proofs
variable {G : Glob}
def emptyD : HDoc := ⟨[], false⟩
def backR (s : List UInt8) (D : HDoc) : HDoc × Int := if docE D = 0 ∧ treeM D = s then (D, 0) else (emptyD, 4)
def backS (s : List UInt8) : Option HDoc → HDoc × Int
  | none => (emptyD, 4)
  | some D => backR s D
theorem lend {P : PG} {f : Nat} {args args' : List AVal} {v : AVal} {h : Heap} (hp : PCalls P f args' v) (hs : Scal v) (hv : F2 (Vw h) args args') : DCalls P f args h fun r h' => r = v ∧ h' = h := hp.borrow hs hv.len hv.get
def c11_s6 : SCode := (.seq (.seq (.reg [⟨some 90, .ld 2 true (.t 4), none⟩, ⟨some 91, .call (.c (.fn 22 [] [])) [.t 90], none⟩, ⟨some 92, .bin .neq (.t 91) (.c (.int .i64 0)), none⟩, ⟨some 93, .mv (.t 92), none⟩, ⟨some 94, .ld 2 true (.t 4), some (93, false)⟩, ⟨some 95, .call (.c (.fn 23 [] [])) [.t 94], some (93, false)⟩, ⟨some 96, .mv (.t 0), some (93, false)⟩, ⟨some 97, .bin .neq (.t 95) (.t 96), some (93, false)⟩, ⟨some 98, .pick (.t 93) (.c (.bool true)) (.t 97), none⟩]) (.cond (.t 98) (.seq (.reg [⟨some 99, .bld [.emp, .bool false] [], none⟩, ⟨none, .st 2 (.t 2) (.t 99), none⟩, ⟨some 3, .mv (.c (.int .i64 4)), none⟩]) .ret) .skip)) (.seq (.reg [⟨some 100, .ld 2 true (.t 4), none⟩, ⟨none, .st 2 (.t 2) (.t 100), none⟩, ⟨some 3, .mv (.c (.int .i64 0)), none⟩]) .ret))
def c11_s5 : SCode := (.seq (.block 0 (.loop (.seq (.seq (.reg [⟨some 24, .mv (.t 5), none⟩, ⟨some 25, .bin .neq (.t 24) (.c (.str [])), none⟩, ⟨some 26, .mv (.t 25), none⟩, ⟨some 27, .fldA 0 (.t 4), some (26, true)⟩, ⟨some 28, .ld 1 false (.t 27), some (26, true)⟩, ⟨some 29, .len (.t 28), some (26, true)⟩, ⟨some 30, .bin .leq (.t 29) (.c (.int .i64 200)), some (26, true)⟩, ⟨some 31, .pick (.t 26) (.t 30) (.c (.bool false)), none⟩]) (.cond (.t 31) .skip (.exit 0))) (.block 1 (.seq (.reg [⟨some 33, .mv (.t 5), none⟩, ⟨some 34, .pcall 19 [.t 33, .c (.str [10])], none⟩, ⟨some 32, .mv (.t 34), none⟩, ⟨some 35, .ext (.t 32) 0, none⟩, ⟨some 36, .ext (.t 32) 1, none⟩, ⟨some 37, .ext (.t 32) 2, none⟩, ⟨some 7, .mv (.t 35), none⟩, ⟨some 8, .mv (.t 36), none⟩, ⟨some 9, .mv (.t 37), none⟩]) (.seq (.reg [⟨some 38, .mv (.t 8), none⟩, ⟨some 5, .mv (.t 38), none⟩]) (.seq (.reg [⟨some 39, .mv (.t 7), none⟩, ⟨some 40, .pcall 20 [.t 39, .c (.str [32])], none⟩, ⟨some 10, .mv (.t 40), none⟩]) (.seq (.reg [⟨some 41, .mv (.t 7), none⟩, ⟨some 42, .lenS (.t 41), none⟩, ⟨some 43, .mv (.t 10), none⟩, ⟨some 44, .lenS (.t 43), none⟩, ⟨some 45, .bin .sub (.t 42) (.t 44), none⟩, ⟨some 11, .mv (.t 45), none⟩]) (.seq (.seq (.reg [⟨some 46, .mv (.t 11), none⟩, ⟨some 47, .mv (.t 6), none⟩, ⟨some 48, .len (.t 47), none⟩, ⟨some 49, .bin .geq (.t 46) (.t 48), none⟩]) (.cond (.t 49) (.seq (.reg [⟨some 50, .bld [.emp, .bool false] [], none⟩, ⟨none, .st 2 (.t 2) (.t 50), none⟩, ⟨some 3, .mv (.c (.int .i64 4)), none⟩]) .ret) .skip)) (.seq (.dreg [(⟨some 51, .mv (.t 10), none⟩, none), (⟨some 52, .pcall 21 [.t 51], none⟩, none), (⟨some 53, .fldA 0 (.t 4), none⟩, none), (⟨some 54, .ld 1 false (.t 53), none⟩, none), (⟨some 55, .len (.t 54), none⟩, none), (⟨some 12, .new 53 6 [.int .i64 0, .str [], .emp, .str [], .int .i64 0, .emp], none⟩, (some [])), (⟨none, .st 6 (.t 12) (.t 52), none⟩, (some [])), (⟨some 13, .mv (.t 55), none⟩, none)]) (.seq (.reg [⟨some 56, .mv (.t 6), none⟩, ⟨some 57, .mv (.t 11), none⟩, ⟨some 58, .idxA 1 (.t 56) (.t 57), none⟩, ⟨some 59, .ld 1 false (.t 58), none⟩, ⟨some 60, .fldA 4 (.t 12), none⟩, ⟨none, .st 1 (.t 60) (.t 59), none⟩]) (.seq (.dreg [(⟨some 61, .fldA 0 (.t 4), none⟩, none), (⟨some 62, .ld 1 false (.t 61), none⟩, none), (⟨some 63, .fldA 4 (.t 12), none⟩, none), (⟨some 64, .ld 1 false (.t 63), none⟩, none), (⟨some 65, .fldA 0 (.t 4), none⟩, none), (⟨some 66, .ld 1 false (.t 65), none⟩, none), (⟨some 67, .fldA 4 (.t 12), none⟩, none), (⟨some 68, .ld 1 false (.t 67), none⟩, none), (⟨some 69, .idxA 6 (.t 66) (.t 68), none⟩, none), (⟨some 70, .fldA 5 (.t 69), none⟩, none), (⟨some 71, .ld 1 false (.t 70), none⟩, none), (⟨some 72, .mv (.t 13), none⟩, none), (⟨some 73, .bldF 3 1 [.t 72], none⟩, none), (⟨some 74, .app 3 1 8 (.t 71) (.t 73), none⟩, (some [71, 66, 68])), (⟨some 75, .idxA 6 (.t 62) (.t 64), none⟩, none), (⟨some 76, .fldA 5 (.t 75), none⟩, none), (⟨none, .st 1 (.t 76) (.t 74), none⟩, (some [62, 64, 71, 66, 68]))]) (.seq (.reg [⟨some 77, .fldA 0 (.t 4), none⟩, ⟨some 78, .ld 1 false (.t 77), none⟩, ⟨some 79, .ld 6 true (.t 12), none⟩, ⟨some 80, .bldF 53 6 [.t 79], none⟩, ⟨some 81, .app 53 6 96 (.t 78) (.t 80), none⟩, ⟨some 82, .fldA 0 (.t 4), none⟩, ⟨none, .st 1 (.t 82) (.t 81), none⟩]) (.reg [⟨some 83, .mv (.t 6), none⟩, ⟨some 84, .mv (.t 11), none⟩, ⟨some 85, .bin .add (.t 84) (.c (.int .i64 1)), none⟩, ⟨some 86, .slA 1 (.t 83) none (some (.t 85)), none⟩, ⟨some 87, .mv (.t 13), none⟩, ⟨some 88, .bldF 3 1 [.t 87], none⟩, ⟨some 89, .app 3 1 8 (.t 86) (.t 88), none⟩, ⟨some 6, .mv (.t 89), none⟩])))))))))))))) c11_s6)
def c11 : SFun := ⟨.seq (.reg [⟨some 2, .new 29 2 [.emp, .bool false], none⟩, ⟨some 3, .mv (.c (.int .i64 0)), none⟩]) (.seq (.reg [⟨some 14, .call (.c (.fn 17 [] [])) [], none⟩, ⟨some 4, .new 29 2 [.emp, .bool false], none⟩, ⟨none, .st 2 (.t 4) (.t 14), none⟩]) (.seq (.reg [⟨some 15, .mv (.t 0), none⟩, ⟨some 5, .mv (.t 15), none⟩]) (.seq (.seq (.reg [⟨some 16, .mv (.t 0), none⟩, ⟨some 17, .pcall 18 [.t 16, .c (.str [126, 10])], none⟩, ⟨some 18, .fldA 1 (.t 4), none⟩, ⟨none, .st 1 (.t 18) (.t 17), none⟩]) (.seq (.reg [⟨some 19, .fldA 1 (.t 4), none⟩, ⟨some 20, .ld 1 false (.t 19), none⟩]) (.cond (.t 20) (.reg [⟨some 21, .mv (.t 0), none⟩, ⟨some 22, .slS (.t 21) (some (.c (.int .i64 2))) none, none⟩, ⟨some 5, .mv (.t 22), none⟩]) .skip))) (.seq (.reg [⟨some 23, .bldR 3 1 [.c (.int .i64 0)], none⟩, ⟨some 6, .mv (.t 23), none⟩]) c11_s5)))), [.cell 2 2 true, .tmp 3]⟩
theorem hc11 : toSF Tryd.prog {pure := [18, 19, 20, 21], how := [(23, 2)]} Tryd.f11 = some c11 := by kernel_rfl
theorem hn11 : (Tryd.f11.name == "runtime.NumGoroutine") = false := by kernel_rfl
def BackK (h0 : Heap) (D : HDoc) (e : Int) (a : AVal) (h' : Heap) : Prop := Sim.Sub h0 h' ∧ VwT (newH h0 h') a (.tup [.agg (eDoc D), aInt e])
theorem vw_empty (h : Heap) : VwT h (.tup [.agg [.emp, .bool false], aInt 4]) (.tup [.agg (eDoc emptyD), aInt 4]) :=
  .tup' (.cons (.agg' (.cons .emp (.cons (.refl _) .nil))) (.cons (.refl _) .nil))
theorem back_end {h0 h : Heap} {r2 r4 rN : Nat} {D : HDoc} {sl' : Nat → AVal} {path : List Int} {pa : AVal} (h2n : h0 r2 = none)
    (B : Bk (upd h0 r2 (some ⟨.t 29, 2, [[.emp, .bool false]]⟩)) h r4 rN D sl' path pa) (S : SzB D) (s : List UInt8) {e : Env} (e0 : e 0 = .str s) (e2 : e 2 = .vp r2 0) (e4 : e 4 = .vp r4 0) :
    vc (Pg G) c11_s6 (retK [.cell 2 2 true, .tmp 3] (BackK h0 (backR s D).1 (backR s D).2)) e h := by
  have hC := check_ok (G := G) D S.sm
  have hv : F2 (Vw h) [.agg [.osl rN 6 0 D.nodes.length, .bool D.quirks]] [.agg (eDoc D)] := .cons (.agg' (.cons B.dw.vw (.cons (.refl _) .nil))) .nil
  have L1 := lend hC (.int _ _) hv
  have g4 := B.doc
  have g2 : h r2 = some ⟨.t 29, 2, [[.emp, .bool false]]⟩ := B.dw.sub _ _ (upd_same _ _ _)
  have n1 : ¬ r4 = r2 := fun q => by have := B.r4n; rw [q, upd_same] at this; cases this
  have n2 : ¬ r2 = r4 := fun q => n1 q.symm
  have S0 : Sim.Sub h0 h := fun t o ht => B.dw.sub t o (by rw [upd_ne _ _ (fun q => by rw [q, h2n] at ht; cases ht)]; exact ht)
  unfold backR
  by_cases hd : docE D = 0
  · have V := (docE_iff D).1 hd
    have L2 := lend (tree_ok (G := G) D V) (.str _) hv
    have b1 : (docE D != 0) = false := by rw [hd]; rfl
    by_cases ht : treeM D = s
    · rw [if_pos ⟨hd, ht⟩]
      have b2 : (treeM D != s) = false := by rw [ht]; simp
      skip
      simp -dsimp -implicitDefEqProofs (disch := omega) only [↓vcOps_sp 26, ↓vcD_sp 26, ↓vcOps_sp 93, ↓vcD_sp 93, VCA, pg_gl, ↓upd_none, Nat.reduceEqDiff, Nat.reduceBEq, Nat.reduceAdd, Nat.reduceSub, Nat.reduceMul, Nat.reduceLT, Nat.reduceLeDiff, ↓reduceIte, reduceCtorEq, rsOf, rootsOf, SOp.rd, SI.rd, SX.rd, rdL, rdO, rdP, okParts, eqCells, okEqCells, fillA, okFill, setAt, implies_true, forall_const, forall_eq, ne_eq, exists_eq_right_right, exists_eq_right, exists_eq_left, exists_eq_left', rootL, eAttr, eInt, eBool, lit_eq, c11_s6, e0, e2, e4, g4]
      refine DCalls.of L1 ?_
      rintro a hh ⟨rfl, rfl⟩
      repeat' (first | ((with_reducible refine brC (fun _ => ?_) fun _ => ?_) <;> try (exfalso; omega)) | ((refine DCalls.of L2 ?_; rintro a hh ⟨rfl, rfl⟩)) | (with_reducible refine And.intro ?_ ?_; · omega) | simp -dsimp -implicitDefEqProofs (disch := omega) only [↓vcOps_sp 26, ↓vcD_sp 26, ↓vcOps_sp 93, ↓vcD_sp 93, VCA, pg_gl, ↓upd_none, Nat.reduceEqDiff, Nat.reduceBEq, Nat.reduceAdd, Nat.reduceSub, Nat.reduceMul, Nat.reduceLT, Nat.reduceLeDiff, ↓reduceIte, reduceCtorEq, rsOf, rootsOf, SOp.rd, SI.rd, SX.rd, rdL, rdO, rdP, okParts, eqCells, okEqCells, fillA, okFill, setAt, implies_true, forall_const, forall_eq, ne_eq, exists_eq_right_right, exists_eq_right, exists_eq_left, exists_eq_left', rootL, eAttr, eInt, eBool, lit_eq, e0, e2, e4, g4, g2, b1, b2, upd_same, n1, n2])
      have W := ((B.dw.less (X' := []) (fun t ht => by cases ht)).beside (r := r2) (Sub.refl h0 |>.upd h2n) (upd_same _ _ _) h2n (by simp) ⟨29, 2, [[.osl rN 6 0 D.nodes.length, .bool D.quirks]]⟩).new'.vw
      exact ⟨_, Sub.refl _, S0.upd h2n, .tup' (.cons (.agg' (.cons W (.cons (.refl _) .nil))) (.cons (.refl _) .nil))⟩
    · rw [if_neg fun q => ht q.2]
      have b2 : (treeM D != s) = true := by simpa using ht
      skip
      simp -dsimp -implicitDefEqProofs (disch := omega) only [↓vcOps_sp 26, ↓vcD_sp 26, ↓vcOps_sp 93, ↓vcD_sp 93, VCA, pg_gl, ↓upd_none, Nat.reduceEqDiff, Nat.reduceBEq, Nat.reduceAdd, Nat.reduceSub, Nat.reduceMul, Nat.reduceLT, Nat.reduceLeDiff, ↓reduceIte, reduceCtorEq, rsOf, rootsOf, SOp.rd, SI.rd, SX.rd, rdL, rdO, rdP, okParts, eqCells, okEqCells, fillA, okFill, setAt, implies_true, forall_const, forall_eq, ne_eq, exists_eq_right_right, exists_eq_right, exists_eq_left, exists_eq_left', rootL, eAttr, eInt, eBool, lit_eq, c11_s6, e0, e2, e4, g4]
      refine DCalls.of L1 ?_
      rintro a hh ⟨rfl, rfl⟩
      repeat' (first | ((with_reducible refine brC (fun _ => ?_) fun _ => ?_) <;> try (exfalso; omega)) | ((refine DCalls.of L2 ?_; rintro a hh ⟨rfl, rfl⟩)) | (with_reducible refine And.intro ?_ ?_; · omega) | simp -dsimp -implicitDefEqProofs (disch := omega) only [↓vcOps_sp 26, ↓vcD_sp 26, ↓vcOps_sp 93, ↓vcD_sp 93, VCA, pg_gl, ↓upd_none, Nat.reduceEqDiff, Nat.reduceBEq, Nat.reduceAdd, Nat.reduceSub, Nat.reduceMul, Nat.reduceLT, Nat.reduceLeDiff, ↓reduceIte, reduceCtorEq, rsOf, rootsOf, SOp.rd, SI.rd, SX.rd, rdL, rdO, rdP, okParts, eqCells, okEqCells, fillA, okFill, setAt, implies_true, forall_const, forall_eq, ne_eq, exists_eq_right_right, exists_eq_right, exists_eq_left, exists_eq_left', rootL, eAttr, eInt, eBool, lit_eq, e0, e2, e4, g4, g2, b1, b2, upd_same, n1, n2])
      exact ⟨_, Sub.refl _, S0.upd h2n, vw_empty _⟩
  · rw [if_neg fun q => hd q.1]
    have b1 : (docE D != 0) = true := by simpa using hd
    skip
    simp -dsimp -implicitDefEqProofs (disch := omega) only [↓vcOps_sp 26, ↓vcD_sp 26, ↓vcOps_sp 93, ↓vcD_sp 93, VCA, pg_gl, ↓upd_none, Nat.reduceEqDiff, Nat.reduceBEq, Nat.reduceAdd, Nat.reduceSub, Nat.reduceMul, Nat.reduceLT, Nat.reduceLeDiff, ↓reduceIte, reduceCtorEq, rsOf, rootsOf, SOp.rd, SI.rd, SX.rd, rdL, rdO, rdP, okParts, eqCells, okEqCells, fillA, okFill, setAt, implies_true, forall_const, forall_eq, ne_eq, exists_eq_right_right, exists_eq_right, exists_eq_left, exists_eq_left', rootL, eAttr, eInt, eBool, lit_eq, c11_s6, e0, e2, e4, g4]
    refine DCalls.of L1 ?_
    rintro a hh ⟨rfl, rfl⟩
    repeat' (first | ((with_reducible refine brC (fun _ => ?_) fun _ => ?_) <;> try (exfalso; omega)) | (with_reducible refine And.intro ?_ ?_; · omega) | simp -dsimp -implicitDefEqProofs (disch := omega) only [↓vcOps_sp 26, ↓vcD_sp 26, ↓vcOps_sp 93, ↓vcD_sp 93, VCA, pg_gl, ↓upd_none, Nat.reduceEqDiff, Nat.reduceBEq, Nat.reduceAdd, Nat.reduceSub, Nat.reduceMul, Nat.reduceLT, Nat.reduceLeDiff, ↓reduceIte, reduceCtorEq, rsOf, rootsOf, SOp.rd, SI.rd, SX.rd, rdL, rdO, rdP, okParts, eqCells, okEqCells, fillA, okFill, setAt, implies_true, forall_const, forall_eq, ne_eq, exists_eq_right_right, exists_eq_right, exists_eq_left, exists_eq_left', rootL, eAttr, eInt, eBool, lit_eq, e0, e2, e4, g4, g2, b1, upd_same, n1, n2])
    exact ⟨_, Sub.refl _, S0.upd h2n, vw_empty _⟩
theorem Bk.r2v {h0 h : Heap} {r2 r4 rN : Nat} {o : AObj} {D : HDoc} {sl' : Nat → AVal} {path : List Int} {pa : AVal} (B : Bk (upd h0 r2 (some o)) h r4 rN D sl' path pa) : h r2 = some o := B.dw.sub _ _ (upd_same _ _ _)
theorem Dw.frame {X : List Nat} {h0 h h2 : Heap} {rN rP : Nat} {d : HDoc} {sl : Nat → AVal} (E : Dw X h0 h rN d sl) (kp : ∀ r o, h r = some o → r ≠ rP → h2 r = some o) (p0 : h0 rP = none) (pN : rP ≠ rN) (pX : rP ∉ X) (ps : ∀ k, k < 2 * d.nodes.length → rootOf (sl k) ≠ some rP) : Dw X h0 h2 rN d sl := by
  refine ⟨fun t o ht => kp t o (E.sub t o ht) (fun q => by rw [q, p0] at ht; cases ht), kp _ _ E.nodes (fun q => pN q.symm), E.new, fun i hi => ?_, E.fresh, E.sep, fun r hr => ?_⟩
  · obtain ⟨g1, g2⟩ := E.own i hi
    exact ⟨g1.keep fun r o hr ho => kp r o ho (fun q => ps _ (by omega) (q ▸ hr)), g2.keep fun r o hr ho => kp r o ho (fun q => ps _ (by omega) (q ▸ hr))⟩
  · obtain ⟨o, ho⟩ := E.keep r hr
    exact ⟨o, kp r o ho (fun q => pX (q ▸ hr))⟩
def LoopI (h0 : Heap) (r2 r4 : Nat) (s : List UInt8) (T : Option HDoc) (m : Nat) (e : Env) (h : Heap) : Prop :=
  ∃ (d : HDoc) (sl' : Nat → AVal) (rN : Nat) (path : List Int) (pa : AVal) (rest : List UInt8) (f : Nat), m = rest.length ∧ rest.length < f ∧ rest.length ≤ 1000000 ∧ backF f d path rest = T ∧ PathIn path d.nodes.length ∧ 0 < path.length ∧ path.length ≤ d.nodes.length ∧ SzB d ∧
    e 0 = .str s ∧ e 2 = .vp r2 0 ∧ e 3 = aInt 0 ∧ e 4 = .vp r4 0 ∧ e 5 = .str rest ∧ e 6 = pa ∧ Bk (upd h0 r2 (some ⟨.t 29, 2, [[.emp, .bool false]]⟩)) h r4 rN d sl' path pa
theorem back_loop (hG : MaxLenOK G) {h0 h : Heap} {r2 r4 : Nat} (h2n : h0 r2 = none) (s : List UInt8) (T : Option HDoc) {m : Nat} {e : Env} (hI : LoopI h0 r2 r4 s T m e h) :
    vc (Pg G) c11_s5 (retK [.cell 2 2 true, .tmp 3] (BackK h0 (backS s T).1 (backS s T).2)) e h := by
  skip
  simp -dsimp -implicitDefEqProofs (disch := omega) only [↓vcOps_sp 26, ↓vcD_sp 26, ↓vcOps_sp 93, ↓vcD_sp 93, VCA, pg_gl, ↓upd_none, Nat.reduceEqDiff, Nat.reduceBEq, Nat.reduceAdd, Nat.reduceSub, Nat.reduceMul, Nat.reduceLT, Nat.reduceLeDiff, ↓reduceIte, reduceCtorEq, rsOf, rootsOf, SOp.rd, SI.rd, SX.rd, rdL, rdO, rdP, okParts, eqCells, okEqCells, fillA, okFill, setAt, implies_true, forall_const, forall_eq, ne_eq, exists_eq_right_right, exists_eq_right, exists_eq_left, exists_eq_left', rootL, eAttr, eInt, eBool, lit_eq, c11_s5]
  refine LoopVC.intro (LoopI h0 r2 r4 s T) m hI ?_
  rintro m e h ⟨d, sl', rN, path, pa, rest, f, rfl, hf, hr6, hT, hP, hp0, hpl, S, e0, e2, e3, e4, e5, e6, B⟩
  obtain ⟨f, rfl⟩ : ∃ g, f = g + 1 := ⟨f - 1, by omega⟩
  have g2 := B.r2v
  have g4 := B.doc
  have gN := B.dw.nodes
  have dl := S.2.1
  obtain ⟨b, hb⟩ : ∃ b, b = AVal.osl rN 6 0 d.nodes.length := ⟨_, rfl⟩
  have g4o := g4
  rw [← hb] at g4
  have bL : aLen b = aInt d.nodes.length := by rw [hb]; rfl
  have bL2 : okLen b = True := by rw [hb]; rfl
  have bV : isV b = true := by rw [hb]; rfl
  have bC : cellsOf b = [b] := by rw [hb]; rfl
  have bI : ∀ q : Int, okIdxA 6 b (.int .i64 q) = (0 ≤ q ∧ q < (d.nodes.length : Int)) := fun q => by rw [hb, okIdxA_osl]; simp
  have bI2 : ∀ q : Int, aIdxA b (.int .i64 q) = .ptr rN q.toNat 0 := fun q => by rw [hb, aIdxA_osl, Nat.zero_add]
  unfold backF at hT
  by_cases hr : rest = [] ∨ 200 < d.nodes.length
  · rw [if_pos hr] at hT
    subst hT
    have en := fun e' (q0 : e' 0 = .str s) (q2 : e' 2 = .vp r2 0) (q4 : e' 4 = .vp r4 0) => back_end (G := G) h2n B S s (e := e') q0 q2 q4
    by_cases hr1 : rest = []
    · have b1 : (rest != []) = false := by rw [hr1]; rfl
      repeat' (first | ((with_reducible refine brC (fun _ => ?_) fun _ => ?_) <;> try (exfalso; omega)) | (with_reducible refine And.intro ?_ ?_; · omega) | simp -dsimp -implicitDefEqProofs (disch := omega) only [↓vcOps_sp 26, ↓vcD_sp 26, ↓vcOps_sp 93, ↓vcD_sp 93, VCA, pg_gl, ↓upd_none, Nat.reduceEqDiff, Nat.reduceBEq, Nat.reduceAdd, Nat.reduceSub, Nat.reduceMul, Nat.reduceLT, Nat.reduceLeDiff, ↓reduceIte, reduceCtorEq, rsOf, rootsOf, SOp.rd, SI.rd, SX.rd, rdL, rdO, rdP, okParts, eqCells, okEqCells, fillA, okFill, setAt, implies_true, forall_const, forall_eq, ne_eq, exists_eq_right_right, exists_eq_right, exists_eq_left, exists_eq_left', rootL, eAttr, eInt, eBool, lit_eq, e0, e2, e3, e4, e5, e6, g2, g4, bL, bL2, bV, bC, b1])
      exact en _ (by simp [upd, e0]) (by simp [upd, e2]) (by simp [upd, e4])
    · have hr2 := hr.resolve_left hr1
      have b1 : (rest != []) = true := by simpa using hr1
      have b2 : decide ((d.nodes.length : Int) ≤ 200) = false := decide_eq_false (by omega)
      repeat' (first | ((with_reducible refine brC (fun _ => ?_) fun _ => ?_) <;> try (exfalso; omega)) | (with_reducible refine And.intro ?_ ?_; · omega) | simp -dsimp -implicitDefEqProofs (disch := omega) only [↓vcOps_sp 26, ↓vcD_sp 26, ↓vcOps_sp 93, ↓vcD_sp 93, VCA, pg_gl, ↓upd_none, Nat.reduceEqDiff, Nat.reduceBEq, Nat.reduceAdd, Nat.reduceSub, Nat.reduceMul, Nat.reduceLT, Nat.reduceLeDiff, ↓reduceIte, reduceCtorEq, rsOf, rootsOf, SOp.rd, SI.rd, SX.rd, rdL, rdO, rdP, okParts, eqCells, okEqCells, fillA, okFill, setAt, implies_true, forall_const, forall_eq, ne_eq, exists_eq_right_right, exists_eq_right, exists_eq_left, exists_eq_left', rootL, eAttr, eInt, eBool, lit_eq, e0, e2, e3, e4, e5, e6, g2, g4, bL, bL2, bV, bC, b1, b2])
      exact en _ (by simp [upd, e0]) (by simp [upd, e2]) (by simp [upd, e4])
  · rw [if_neg hr] at hT
    have hr1 : rest ≠ [] := fun q => hr (.inl q)
    have hr2 : d.nodes.length ≤ 200 := by omega
    have b1 : (rest != []) = true := by simpa using hr1
    have b2 : decide ((d.nodes.length : Int) ≤ 200) = true := decide_eq_true (by omega)
    have cK := cut_ok (G := G) hG rest [10] (by omega)
    rw [cut_cutB] at cK
    have hcl := cutB_len 10 rest
    have hcr := cut_len10 hr1
    obtain ⟨one, hone⟩ : ∃ one, (cutB 10 rest).1 = one := ⟨_, rfl⟩
    obtain ⟨more, hmore⟩ : ∃ more, (cutB 10 rest).2.getD [] = more := ⟨_, rfl⟩
    rw [hone, hmore] at cK hT
    rw [hone, hmore] at hcl
    rw [hmore] at hcr
    have cT := trimLeft_ok (G := G) one 32 (by decide)
    have hin : one.dropWhile (· == 32) = innerOf one := rfl
    rw [hin] at cT
    have hil : (innerOf one).length ≤ one.length := (List.dropWhile_sublist _).length_le
    obtain ⟨inner, hinner⟩ : ∃ inner, innerOf one = inner := ⟨_, rfl⟩
    obtain ⟨deep, hdeep⟩ : ∃ deep, deepOf one = deep := ⟨_, rfl⟩
    have hde : one.length - inner.length = deep := by rw [← hdeep, ← hinner]; rfl
    rw [hinner] at cT hT hil
    rw [hdeep] at hT
    have cN := snode_ok (G := G) hG inner (by omega)
    have hdI : (one.length : Int) - inner.length = deep := by omega
    have pl := B.pt.len
    rw [List.length_map] at pl
    by_cases hdp : path.length ≤ deep
    · rw [if_pos hdp] at hT
      subst hT
      repeat' (first | ((with_reducible refine brC (fun _ => ?_) fun _ => ?_) <;> try (exfalso; omega)) | (with_reducible apply pcallE.of; · exact cK) | (with_reducible apply pcallE.of; · exact cT) | (with_reducible refine And.intro ?_ ?_; · omega) | simp -dsimp -implicitDefEqProofs (disch := omega) only [↓vcOps_sp 26, ↓vcD_sp 26, ↓vcOps_sp 93, ↓vcD_sp 93, VCA, pg_gl, ↓upd_none, Nat.reduceEqDiff, Nat.reduceBEq, Nat.reduceAdd, Nat.reduceSub, Nat.reduceMul, Nat.reduceLT, Nat.reduceLeDiff, ↓reduceIte, reduceCtorEq, rsOf, rootsOf, SOp.rd, SI.rd, SX.rd, rdL, rdO, rdP, okParts, eqCells, okEqCells, fillA, okFill, setAt, implies_true, forall_const, forall_eq, ne_eq, exists_eq_right_right, exists_eq_right, exists_eq_left, exists_eq_left', rootL, eAttr, eInt, eBool, lit_eq, e0, e2, e3, e4, e5, e6, g2, g4, bL, bL2, bV, bC, b1, b2, hdI, pl.1, pl.2])
      have S0 : Sim.Sub h0 h := fun t o ht => B.dw.sub t o (by rw [upd_ne _ _ (fun q => by rw [q, h2n] at ht; cases ht)]; exact ht)
      exact ⟨_, Sub.refl _, S0.upd h2n, vw_empty _⟩
    · rw [if_neg hdp] at hT
      repeat' (first | ((with_reducible refine brC (fun _ => ?_) fun _ => ?_) <;> try (exfalso; omega)) | (with_reducible apply pcallE.of; · exact cK) | (with_reducible apply pcallE.of; · exact cT) | (with_reducible apply pcallE.of; · exact cN) | (with_reducible refine And.intro ?_ ?_; · omega) | simp -dsimp -implicitDefEqProofs (disch := omega) only [↓vcOps_sp 26, ↓vcD_sp 26, ↓vcOps_sp 93, ↓vcD_sp 93, VCA, pg_gl, ↓upd_none, Nat.reduceEqDiff, Nat.reduceBEq, Nat.reduceAdd, Nat.reduceSub, Nat.reduceMul, Nat.reduceLT, Nat.reduceLeDiff, ↓reduceIte, reduceCtorEq, rsOf, rootsOf, SOp.rd, SI.rd, SX.rd, rdL, rdO, rdP, okParts, eqCells, okEqCells, fillA, okFill, setAt, implies_true, forall_const, forall_eq, ne_eq, exists_eq_right_right, exists_eq_right, exists_eq_left, exists_eq_left', rootL, eAttr, eInt, eBool, lit_eq, e0, e2, e3, e4, e5, e6, g2, g4, bL, bL2, bV, bC, b1, b2, hdI, pl.1, pl.2])
      intro r12 hr12
      obtain ⟨x, hx⟩ : ∃ x, nodeU inner = x := ⟨_, rfl⟩
      have hxk : x.kids = [] := hx ▸ nodeU_kids inner
      have hxs : NodeSm x := by rw [← hx]; exact nodeU_sm (by omega)
      rw [hx] at hT
      obtain ⟨p, hp⟩ : ∃ p, nth path deep = p := ⟨_, rfl⟩
      have hdl : deep < path.length := by omega
      have hpi := hP p (hp ▸ nth_mem' hdl)
      rw [hp] at hT
      have hpn : p.toNat < d.nodes.length := by omega
      rcases B.pt.live B.pm with ⟨q, _⟩ | ⟨rP, es, hpa, gP, hle, hes⟩
      · exfalso
        have := congrArg List.length q
        rw [List.length_map] at this
        change path.length = 0 at this
        omega
      rw [List.length_map] at hpa hle hes
      obtain ⟨z1, z2, z3, z4⟩ := B.pn rP (by rw [hpa]; rfl)
      have hget : es.getD deep [] = [aInt p] := by
        have : (es.take path.length)[deep]? = (path.map eInt)[deep]? := by rw [hes]
        rw [List.getElem?_take, if_pos hdl, List.getElem?_map, nth_some hdl, hp] at this
        rw [List.getD_eq_getElem?_getD, this]; rfl
      have m4 : ¬ r4 = r12 := fun q => by rw [q, hr12] at g4; cases g4
      have m2 : ¬ r2 = r12 := fun q => by rw [q, hr12] at g2; cases g2
      have mN : ¬ rN = r12 := fun q => by rw [q, hr12] at gN; cases gN
      have mP : ¬ rP = r12 := fun q => by rw [q, hr12] at gP; cases gP
      have m4' : ¬ r12 = r4 := fun q => m4 q.symm
      have mN' : ¬ r12 = rN := fun q => mN q.symm
      have mP' : ¬ r12 = rP := fun q => mP q.symm
      have k4N : ¬ r4 = rN := fun q => B.dw.new.2 (by rw [← q]; simp)
      have kN4 : ¬ rN = r4 := fun q => k4N q.symm
      have gi := rowsA_get (sl := sl') hpn
      have wl := rowsA_len d sl'
      have Z := rowE x
      unfold rowE rowA at *
      have td : ((deep : Int)).toNat = deep := by omega
      simp -dsimp -implicitDefEqProofs (disch := omega) only [↓vcOps_sp 26, ↓vcD_sp 26, ↓vcOps_sp 93, ↓vcD_sp 93, VCA, pg_gl, ↓upd_none, Nat.reduceEqDiff, Nat.reduceBEq, Nat.reduceAdd, Nat.reduceSub, Nat.reduceMul, Nat.reduceLT, Nat.reduceLeDiff, ↓reduceIte, reduceCtorEq, rsOf, rootsOf, SOp.rd, SI.rd, SX.rd, rdL, rdO, rdP, okParts, eqCells, okEqCells, fillA, okFill, setAt, implies_true, forall_const, forall_eq, ne_eq, exists_eq_right_right, exists_eq_right, exists_eq_left, exists_eq_left', rootL, eAttr, eInt, eBool, lit_eq, e0, e2, e3, e4, e5, e6, hpa, td, g2, g4, bL, bL2, bV, bC, bI, bI2, gN, gP, hget, hx, m4, m4', mN, mN', mP, mP', upd_same, gi, wl]
      refine ⟨by omega, by omega, hpi, hpn, ?_⟩
      obtain ⟨H, hH⟩ : ∃ H, H = upd h r12 (some ⟨.t 53, 6, [[aInt x.kind, .str x.name, sl eAttr x.attrs, .str x.text, aInt p, .emp]]⟩) := ⟨_, rfl⟩
      show Hd (appE 3 1 8 (sl' (2 * p.toNat + 1)) [[aInt d.nodes.length]] (upd h r12 (some ⟨.t 53, 6, [[aInt x.kind, .str x.name, sl eAttr x.attrs, .str x.text, aInt p, .emp]]⟩))) _ _
      rw [← hH]
      have S1 : Sim.Sub h H := by rw [hH]; exact (Sub.refl _).upd hr12
      have EH := B.dw.mono S1
      have H12 : H r12 = some ⟨.t 53, 6, [[aInt x.kind, .str x.name, sl eAttr x.attrs, .str x.text, aInt p, .emp]]⟩ := by rw [hH, upd_same]
      have H4 := S1 _ _ g4
      have H2 := S1 _ _ g2
      have HP := S1 _ _ gP
      have HN := EH.nodes
      have O2 := (EH.own _ hpn).2
      have M2 := B.live _ hpn
      have f2 := fun (r : Nat) (hr : rootOf (sl' (2 * p.toNat + 1)) = some r) => EH.fresh (2 * p.toNat + 1) (by omega) r hr
      have kl := (S.2.2 _ hpn).2
      refine O2.app M2 (by rw [List.length_map, List.length_singleton]; omega) (by rw [List.length_map, List.length_singleton]; omega) fun rK h3 q1 q2 q3 => ?_
      rw [List.length_map, List.length_singleton]
      have e2N : rootOf (sl' (2 * p.toNat + 1)) ≠ some rN := fun q => (f2 _ q).2.1 rfl
      have e24 : rootOf (sl' (2 * p.toNat + 1)) ≠ some r4 := fun q => (f2 _ q).2.2 (by simp)
      have e2P : rootOf (sl' (2 * p.toNat + 1)) ≠ some rP := z4 _ (by omega)
      have e22 : rootOf (sl' (2 * p.toNat + 1)) ≠ some r2 := fun q => by have := (f2 _ q).1; rw [upd_same] at this; cases this
      have e212 : rootOf (sl' (2 * p.toNat + 1)) ≠ some r12 := fun q => by
        obtain ⟨o, ho⟩ := B.dw.slot (k := 2 * p.toNat + 1) (by omega) q
        rw [hr12] at ho; cases ho
      have k4 := q3 _ _ H4 e24
      have k2 := q3 _ _ H2 e22
      have kP := q3 _ _ HP e2P
      have kN := q3 _ _ HN e2N
      have k12 := q3 _ _ H12 e212
      refine ⟨fun y hy hc => ?_, ?_⟩
      · rcases List.mem_append.1 hy with hy | hy
        · exfalso
          obtain ⟨t, _, rfl⟩ := List.mem_map.1 hy
          have q : true = false := hc
          cases q
        · rcases List.mem_cons.1 hy with rfl | hy
          · exfalso
            have q : true = false := hc
            cases q
          rcases List.mem_cons.1 hy with rfl | hy
          · exfalso
            have q : true = false := hc
            cases q
          rcases List.mem_cons.1 hy with rfl | hy
          · show h3 r12 = _
            rw [k12]
            simp -dsimp -implicitDefEqProofs (disch := omega) only [↓vcOps_sp 26, ↓vcD_sp 26, ↓vcOps_sp 93, ↓vcD_sp 93, VCA, pg_gl, ↓upd_none, Nat.reduceEqDiff, Nat.reduceBEq, Nat.reduceAdd, Nat.reduceSub, Nat.reduceMul, Nat.reduceLT, Nat.reduceLeDiff, ↓reduceIte, reduceCtorEq, rsOf, rootsOf, SOp.rd, SI.rd, SX.rd, rdL, rdO, rdP, okParts, eqCells, okEqCells, fillA, okFill, setAt, implies_true, forall_const, forall_eq, ne_eq, exists_eq_right_right, exists_eq_right, exists_eq_left, exists_eq_left', rootL, eAttr, eInt, eBool, lit_eq, hpa, td, gP, hget, hx, mP, mP', upd_same]
          rcases List.mem_cons.1 hy with rfl | hy
          · show h3 r4 = _
            rw [k4, upd_ne _ _ m4]
            exact g4.symm
          cases hy
      simp -dsimp -implicitDefEqProofs (disch := omega) only [↓vcOps_sp 26, ↓vcD_sp 26, ↓vcOps_sp 93, ↓vcD_sp 93, VCA, pg_gl, ↓upd_none, Nat.reduceEqDiff, Nat.reduceBEq, Nat.reduceAdd, Nat.reduceSub, Nat.reduceMul, Nat.reduceLT, Nat.reduceLeDiff, ↓reduceIte, reduceCtorEq, rsOf, rootsOf, SOp.rd, SI.rd, SX.rd, rdL, rdO, rdP, okParts, eqCells, okEqCells, fillA, okFill, setAt, implies_true, forall_const, forall_eq, ne_eq, exists_eq_right_right, exists_eq_right, exists_eq_left, exists_eq_left', rootL, eAttr, eInt, eBool, lit_eq, e0, e2, e3, e4, e5, e6, hpa, td, bL, bL2, bV, bC, bI, bI2, gP, hget, hx, k2, k4, kN, kP, k12, m4, m4', mN, mN', mP, mP', upd_same, gi, wl, k4N, kN4]
      refine ⟨hpi, hpn, ?_⟩
      obtain ⟨y, hy⟩ : ∃ y : HNode, y = { nth d.nodes p.toNat with kids := (nth d.nodes p.toNat).kids ++ [(d.nodes.length : Int)] } := ⟨_, rfl⟩
      obtain ⟨H5, hH5⟩ : ∃ H5, H5 = upd h3 rN (some ⟨.t 53, 6, (rowsA d sl').set p.toNat (rowA y (sl' (2 * p.toNat)) (.osl rK 1 0 ((nth d.nodes p.toNat).kids.length + 1)))⟩) := ⟨_, rfl⟩
      have E3 := EH.kid hpn q1 q2 q3
      rw [← hy, ← hH5] at E3
      show Hd (appE 53 6 96 b [[aInt x.kind, .str x.name, sl eAttr x.attrs, .str x.text, aInt p, .emp]] (upd h3 rN (some ⟨.t 53, 6, (rowsA d sl').set p.toNat [aInt (nth d.nodes p.toNat).kind, .str (nth d.nodes p.toNat).name, sl' (2 * p.toNat), .str (nth d.nodes p.toNat).text, aInt (nth d.nodes p.toNat).parent, .osl rK 1 0 ((nth d.nodes p.toNat).kids.length + 1)]⟩))) _ _
      rw [show (upd h3 rN (some ⟨.t 53, 6, (rowsA d sl').set p.toNat [aInt (nth d.nodes p.toNat).kind, .str (nth d.nodes p.toNat).name, sl' (2 * p.toNat), .str (nth d.nodes p.toNat).text, aInt (nth d.nodes p.toNat).parent, .osl rK 1 0 ((nth d.nodes p.toNat).kids.length + 1)]⟩) : Heap) = H5 from by rw [hH5, hy]; rfl]
      have l1 : (d.nodes.set p.toNat y).length = d.nodes.length := List.length_set
      obtain ⟨O5, M5⟩ := E3.rows
      simp only [l1] at O5 M5
      rw [hb]
      have l5 : (rowsA ⟨d.nodes.set p.toNat y, d.quirks⟩ (upd sl' (2 * p.toNat + 1) (.osl rK 1 0 ((nth d.nodes p.toNat).kids.length + 1)))).length = d.nodes.length := by rw [rowsA_len]; exact l1
      refine O5.app M5 (by rw [l5, List.length_singleton]; omega) (by rw [l5, List.length_singleton]; omega) fun rN' h6 s1 s2 s3 => ?_
      rw [l5, List.length_singleton]
      have k5 : ∀ r o, h3 r = some o → r ≠ rN → H5 r = some o := fun r o ho hne => by rw [hH5, upd_ne _ _ hne]; exact ho
      have bn : ∀ r, r ≠ rN → rootOf (AVal.osl rN 6 0 d.nodes.length) ≠ some r := fun r hne q => hne (by cases q; rfl)
      have j4 := s3 _ _ (k5 _ _ k4 k4N) (bn _ k4N)
      have kPN : rP ≠ rN := z3
      have jP := s3 _ _ (k5 _ _ kP kPN) (bn _ kPN)
      have k2N : r2 ≠ rN := fun q => by have := B.dw.new.1; rw [← q, upd_same] at this; cases this
      have j2 := s3 _ _ (k5 _ _ k2 k2N) (bn _ k2N)
      have n4P : ¬ r4 = rP := fun q => z2 q.symm
      have nP4 : ¬ rP = r4 := z2
      have n24 : ¬ r2 = r4 := fun q => by have := B.r4n; rw [← q, upd_same] at this; cases this
      obtain ⟨pb, hpb⟩ : ∃ pb, pb = AVal.osl rP 1 0 (deep + 1) := ⟨_, rfl⟩
      have td1 : ((deep : Int) + 1).toNat = deep + 1 := by omega
      have sA : aSlA pa none (some (.int .i64 ((deep : Int) + 1))) = pb := by rw [hpa, hpb, aSlA_osl]; simp only [loOf_none, hiOf_int, Int.toNat_zero, td1, Nat.sub_zero, Nat.zero_add]
      have sB : okSlA 1 pa none (some (.int .i64 ((deep : Int) + 1))) = True := by rw [hpa, okSlA_osl]; simp only [loOf_none, hiOf_int, okB_none, okB_int]; simp; omega
      simp -dsimp -implicitDefEqProofs (disch := omega) only [↓vcOps_sp 26, ↓vcD_sp 26, ↓vcOps_sp 93, ↓vcD_sp 93, VCA, pg_gl, ↓upd_none, Nat.reduceEqDiff, Nat.reduceBEq, Nat.reduceAdd, Nat.reduceSub, Nat.reduceMul, Nat.reduceLT, Nat.reduceLeDiff, ↓reduceIte, reduceCtorEq, rsOf, rootsOf, SOp.rd, SI.rd, SX.rd, rdL, rdO, rdP, okParts, eqCells, okEqCells, fillA, okFill, setAt, implies_true, forall_const, forall_eq, ne_eq, exists_eq_right_right, exists_eq_right, exists_eq_left, exists_eq_left', rootL, eAttr, eInt, eBool, lit_eq, e0, e2, e3, e4, e5, e6, td, bL, bL2, bV, bC, j4, j2, jP, nP4, n4P, upd_same, sA, sB]
      obtain ⟨H7, hH7⟩ : ∃ H7, H7 = upd h6 r4 (some ⟨.t 29, 2, [[.osl rN' 6 0 (d.nodes.length + 1), .bool d.quirks]]⟩) := ⟨_, rfl⟩
      rw [← hH7]
      have fN : rN' = rN ∨ H5 rN' = none := by
        rcases s2 with q | q
        · cases q; exact .inl rfl
        · exact .inr q
      have E4 := E3.add (h2 := h6) (rN' := rN') (x := { x with parent := p }) (a' := sl eAttr x.attrs) hxk s1 (fun r o ho hne => s3 r o ho (bn r hne)) (.inr (.inl ⟨rfl, fun e he => by obtain ⟨z, _, rfl⟩ := List.mem_map.1 he; rfl⟩)) (fun r hr => by cases hr) fN
      have hak : addN ⟨d.nodes.set p.toNat y, d.quirks⟩ { x with parent := p } = addKid d p x := by rw [hy]; rfl
      have E5 := E4.other (r := r4) (by simp) B.r4n ⟨29, 2, [[.osl rN' 6 0 (d.nodes.length + 1), .bool d.quirks]]⟩
      rw [hak] at E5
      simp only [l1] at E5
      obtain ⟨sl2, hsl2⟩ : ∃ sl2, sl2 = upd (upd (upd sl' (2 * p.toNat + 1) (.osl rK 1 0 ((nth d.nodes p.toNat).kids.length + 1))) (2 * d.nodes.length) (sl eAttr x.attrs)) (2 * d.nodes.length + 1) .emp := ⟨_, rfl⟩
      replace E5 : Dw [r4] (upd h0 r2 (some ⟨.t 29, 2, [[.emp, .bool false]]⟩)) H7 rN' (addKid d p x) sl2 := by rw [hH7, hsl2]; exact E5
      have gP7 : H7 rP = some ⟨.t 3, 1, es⟩ := by rw [hH7, upd_ne _ _ nP4]; exact jP
      have hcl2 : ((path.take (deep + 1)).map eInt).length = deep + 1 := by rw [List.length_map, List.length_take]; omega
      have O7 : OwnS H7 3 1 ((path.take (deep + 1)).map eInt) pb := by
        refine .inr (.inr ⟨rP, es, by rw [hcl2]; exact hpb, gP7, by rw [hcl2]; omega, ?_⟩)
        rw [hcl2, List.map_take, ← hes, List.take_take, Nat.min_eq_left (by omega)]
      have M7 : Mut pb := fun es q => by rw [hpb] at q; cases q
      refine O7.app M7 (by rw [hcl2, List.length_singleton]; omega) (by rw [hcl2, List.length_singleton]; omega) fun rP' h8 t1 t2 t3 => ?_
      rw [hcl2, List.length_singleton]
      simp -dsimp -implicitDefEqProofs (disch := omega) only [↓vcOps_sp 26, ↓vcD_sp 26, ↓vcOps_sp 93, ↓vcD_sp 93, VCA, pg_gl, ↓upd_none, Nat.reduceEqDiff, Nat.reduceBEq, Nat.reduceAdd, Nat.reduceSub, Nat.reduceMul, Nat.reduceLT, Nat.reduceLeDiff, ↓reduceIte, reduceCtorEq, rsOf, rootsOf, SOp.rd, SI.rd, SX.rd, rdL, rdO, rdP, okParts, eqCells, okEqCells, fillA, okFill, setAt, implies_true, forall_const, forall_eq, ne_eq, exists_eq_right_right, exists_eq_right, exists_eq_left, exists_eq_left', rootL, eAttr, eInt, eBool, lit_eq, e0, e2, e3, e4, e5, e6]
      have bP : ∀ r, r ≠ rP → rootOf pb ≠ some r := fun r hne q => hne (by rw [hpb] at q; cases q; rfl)
      have kp : ∀ r o, H7 r = some o → r ≠ rP → h8 r = some o := fun r o ho hne => t3 r o ho (bP r hne)
      have hKP : rK ≠ rP := fun q => by
        rcases q2 with w | w
        · exact e2P (q ▸ w)
        · rw [q, HP] at w; cases w
      have hN'P : rP ≠ rN' := fun q => by
        rcases fN with w | w
        · exact kPN (q.trans w)
        · have := k5 _ _ kP kPN
          rw [q, w] at this; cases this
      have slots : ∀ k, k < 2 * (d.nodes.length + 1) → (k = 2 * d.nodes.length + 1 ∧ sl2 k = .emp) ∨ (k = 2 * d.nodes.length ∧ sl2 k = sl eAttr x.attrs) ∨ (k < 2 * d.nodes.length ∧ k = 2 * p.toNat + 1 ∧ sl2 k = .osl rK 1 0 ((nth d.nodes p.toNat).kids.length + 1)) ∨ (k < 2 * d.nodes.length ∧ k ≠ 2 * p.toNat + 1 ∧ sl2 k = sl' k) := fun k hk => by
        rw [hsl2]
        by_cases c1 : k = 2 * d.nodes.length + 1
        · exact .inl ⟨c1, by rw [c1, upd_same]⟩
        · rw [upd_ne _ _ c1]
          by_cases c2 : k = 2 * d.nodes.length
          · exact .inr (.inl ⟨c2, by rw [c2, upd_same]⟩)
          · rw [upd_ne _ _ c2]
            by_cases c3 : k = 2 * p.toNat + 1
            · exact .inr (.inr (.inl ⟨by omega, c3, by rw [c3, upd_same]⟩))
            · exact .inr (.inr (.inr ⟨by omega, c3, upd_ne _ _ c3⟩))
      have ps : ∀ k, k < 2 * (d.nodes.length + 1) → rootOf (sl2 k) ≠ some rP := fun k hk q => by
        rcases slots k hk with ⟨_, w⟩ | ⟨_, w⟩ | ⟨_, _, w⟩ | ⟨w1, _, w⟩
        · rw [w] at q; cases q
        · rw [w] at q; cases q
        · rw [w] at q; cases q; exact hKP rfl
        · rw [w] at q; exact z4 k w1 q
      have al := addKid_len d p x
      have E8 := E5.frame (h2 := h8) (rP := rP) kp z1 hN'P (by simpa using nP4) (by rw [al]; exact ps)
      have d4 : h8 r4 = some ⟨.t 29, 2, [[.osl rN' 6 0 (addKid d p x).nodes.length, .bool (addKid d p x).quirks]]⟩ := by
        rw [al]
        exact kp _ _ (by rw [hH7, upd_same]; rfl) n4P
      refine ⟨more.length, hcr, addKid d p x, sl2, rN', path.take (deep + 1) ++ [(d.nodes.length : Int)], .osl rP' 1 0 (deep + 1 + 1), more, f, rfl, by omega, by omega, hT, by rw [al]; exact path_next hP, by simp, by rw [al, List.length_append, List.length_take, List.length_singleton]; omega, S.kid hpn hxs hxk hr2,
        by simp [upd, e0], by simp [upd, e2], by simp [upd, e3], by simp [upd, e4], by simp [upd], by simp [upd], ?_⟩
      refine ⟨E8, B.r4n, d4, ?_, (fun es q => by cases q), (fun r hr => ?_), fun i hi => ?_⟩
      · refine .inr (.inr ⟨rP', _, ?_, t1, ?_, ?_⟩)
        · rw [List.length_map, List.length_append, List.length_take, List.length_singleton, Nat.min_eq_left (by omega)]
        · rw [List.length_map, List.length_append, List.length_append, List.length_map, List.length_singleton, List.length_singleton]; exact Nat.le_refl _
        · rw [List.take_of_length_le (by rw [List.length_map, List.length_append, List.length_append, List.length_map, List.length_singleton, List.length_singleton]; exact Nat.le_refl _), List.map_append]; rfl
      · cases hr
        have rPc : rP' = rP ∨ H7 rP' = none := by
          rcases t2 with w | w
          · rw [hpb] at w; cases w; exact .inl rfl
          · exact .inr w
        rcases rPc with w | w
        · rw [w]; exact ⟨z1, z2, hN'P, by rw [al]; exact ps⟩
        · refine ⟨E5.sub.none w, fun q => ?_, fun q => ?_, fun k hk q => ?_⟩
          · rw [q, hH7, upd_same] at w; cases w
          · rw [q, E5.nodes] at w; cases w
          · obtain ⟨o, ho⟩ := E5.slot hk q
            rw [w] at ho; cases ho
      · rw [al] at hi
        rcases slots (2 * i + 1) (by omega) with ⟨_, w⟩ | ⟨w1, _⟩ | ⟨_, _, w⟩ | ⟨w1, _, w⟩
        · rw [w]; exact fun es q => by cases q
        · omega
        · rw [w]; exact fun es q => by cases q
        · rw [w]; exact B.live i (by omega)
end Go.Proofs.K
end
section
set_option linter.unusedSimpArgs false
set_option linter.unusedVariables false
namespace Go.Proofs.K
open Go Go.Sim Go.Proofs
variable {G : Glob}
def c12_s6 : SCode := (.seq (.seq (.reg [⟨some 150, .ld 2 true (.t 4), none⟩, ⟨some 151, .call (.c (.fn 25 [] [])) [.t 150], none⟩, ⟨some 152, .bin .neq (.t 151) (.c (.int .i64 0)), none⟩]) (.cond (.t 152) (.seq (.reg [⟨some 153, .bld [.emp, .bool false] [], none⟩, ⟨none, .st 2 (.t 2) (.t 153), none⟩, ⟨some 3, .mv (.c (.bool false)), none⟩]) .ret) .skip)) (.seq (.reg [⟨some 154, .ld 2 true (.t 4), none⟩, ⟨none, .st 2 (.t 2) (.t 154), none⟩, ⟨some 3, .mv (.c (.bool true)), none⟩]) .ret))
def c12_s5 : SCode := (.seq (.block 0 (.loop (.seq (.seq (.reg [⟨some 37, .mv (.t 0), none⟩, ⟨some 38, .bin .neq (.t 37) (.c (.str [])), none⟩]) (.cond (.t 38) .skip (.exit 0))) (.block 1 (.seq (.reg [⟨some 6, .mv (.c (.int .i64 0)), none⟩]) (.seq (.block 2 (.loop (.seq (.seq (.reg [⟨some 39, .mv (.t 0), none⟩, ⟨some 40, .mv (.t 6), none⟩, ⟨some 41, .idxS (.t 39) (.t 40), none⟩, ⟨some 42, .bin .neq (.t 41) (.c (.int .u8 10)), none⟩]) (.cond (.t 42) .skip (.exit 2))) (.block 3 (.reg [⟨some 43, .mv (.t 6), none⟩, ⟨some 44, .bin .add (.t 43) (.c (.int .i64 1)), none⟩, ⟨some 6, .mv (.t 44), none⟩]))))) (.seq (.reg [⟨some 45, .mv (.t 0), none⟩, ⟨some 46, .mv (.t 6), none⟩, ⟨some 47, .slS (.t 45) none (some (.t 46)), none⟩, ⟨some 7, .mv (.t 47), none⟩]) (.seq (.reg [⟨some 48, .mv (.t 0), none⟩, ⟨some 49, .mv (.t 6), none⟩, ⟨some 50, .bin .add (.t 49) (.c (.int .i64 1)), none⟩, ⟨some 51, .slS (.t 48) (some (.t 50)) none, none⟩, ⟨some 0, .mv (.t 51), none⟩]) (.seq (.reg [⟨some 8, .mv (.c (.int .i64 0)), none⟩]) (.seq (.block 4 (.loop (.seq (.seq (.reg [⟨some 52, .mv (.t 8), none⟩, ⟨some 53, .mv (.t 7), none⟩, ⟨some 54, .lenS (.t 53), none⟩, ⟨some 55, .bin .lss (.t 52) (.t 54), none⟩, ⟨some 56, .mv (.t 55), none⟩, ⟨some 57, .mv (.t 7), some (56, true)⟩, ⟨some 58, .mv (.t 8), some (56, true)⟩, ⟨some 59, .idxS (.t 57) (.t 58), some (56, true)⟩, ⟨some 60, .bin .eql (.t 59) (.c (.int .u8 32)), some (56, true)⟩, ⟨some 61, .pick (.t 56) (.t 60) (.c (.bool false)), none⟩]) (.cond (.t 61) .skip (.exit 4))) (.block 5 (.reg [⟨some 62, .mv (.t 8), none⟩, ⟨some 63, .bin .add (.t 62) (.c (.int .i64 1)), none⟩, ⟨some 8, .mv (.t 63), none⟩]))))) (.seq (.reg [⟨some 65, .mv (.t 7), none⟩, ⟨some 66, .mv (.t 8), none⟩, ⟨some 67, .slS (.t 65) (some (.t 66)) none, none⟩, ⟨some 68, .pcall 24 [.t 67], none⟩, ⟨some 64, .mv (.t 68), none⟩, ⟨some 69, .ext (.t 64) 0, none⟩, ⟨some 70, .ext (.t 64) 1, none⟩, ⟨some 9, .new 53 6 [.int .i64 0, .str [], .emp, .str [], .int .i64 0, .emp], none⟩, ⟨none, .st 6 (.t 9) (.t 69), none⟩, ⟨some 10, .mv (.t 70), none⟩]) (.seq (.seq (.reg [⟨some 71, .mv (.t 10), none⟩, ⟨some 72, .un .not (.t 71), none⟩, ⟨some 73, .mv (.t 72), none⟩, ⟨some 74, .mv (.t 8), some (73, false)⟩, ⟨some 75, .bin .gtr (.t 74) (.c (.int .i64 0)), some (73, false)⟩, ⟨some 76, .mv (.t 75), some (73, false)⟩, ⟨some 77, .mv (.t 5), some (76, true)⟩, ⟨some 78, .len (.t 77), some (76, true)⟩, ⟨some 79, .bin .eql (.t 78) (.c (.int .i64 0)), some (76, true)⟩, ⟨some 80, .mv (.t 79), some (76, true)⟩, ⟨some 81, .mv (.t 8), some (80, false)⟩, ⟨some 82, .mv (.t 5), some (80, false)⟩, ⟨some 83, .mv (.t 5), some (80, false)⟩, ⟨some 84, .len (.t 83), some (80, false)⟩, ⟨some 85, .bin .sub (.t 84) (.c (.int .i64 1)), some (80, false)⟩, ⟨some 86, .idxA 1 (.t 82) (.t 85), some (80, false)⟩, ⟨some 87, .ld 1 false (.t 86), some (80, false)⟩, ⟨some 88, .bin .add (.t 87) (.c (.int .i64 1)), some (80, false)⟩, ⟨some 89, .bin .gtr (.t 81) (.t 88), some (80, false)⟩, ⟨some 90, .pick (.t 80) (.c (.bool true)) (.t 89), some (76, true)⟩, ⟨some 91, .pick (.t 76) (.t 90) (.c (.bool false)), some (73, false)⟩, ⟨some 92, .pick (.t 73) (.c (.bool true)) (.t 91), none⟩, ⟨some 93, .mv (.t 92), none⟩, ⟨some 94, .fldA 0 (.t 4), some (93, false)⟩, ⟨some 95, .ld 1 false (.t 94), some (93, false)⟩, ⟨some 96, .len (.t 95), some (93, false)⟩, ⟨some 97, .bin .gtr (.t 96) (.c (.int .i64 200)), some (93, false)⟩, ⟨some 98, .pick (.t 93) (.c (.bool true)) (.t 97), none⟩]) (.cond (.t 98) (.seq (.reg [⟨some 99, .bld [.emp, .bool false] [], none⟩, ⟨none, .st 2 (.t 2) (.t 99), none⟩, ⟨some 3, .mv (.c (.bool false)), none⟩]) .ret) .skip)) (.seq (.reg [⟨some 100, .fldA 4 (.t 9), none⟩, ⟨none, .st 1 (.t 100) (.c (.int .i64 0)), none⟩]) (.seq (.seq (.reg [⟨some 101, .mv (.t 5), none⟩, ⟨some 102, .len (.t 101), none⟩, ⟨some 103, .bin .sub (.t 102) (.c (.int .i64 1)), none⟩, ⟨some 11, .mv (.t 103), none⟩]) (.block 6 (.loop (.seq (.seq (.reg [⟨some 104, .mv (.t 11), none⟩, ⟨some 105, .bin .geq (.t 104) (.c (.int .i64 0)), none⟩, ⟨some 106, .mv (.t 105), none⟩, ⟨some 107, .mv (.t 8), some (106, true)⟩, ⟨some 108, .bin .gtr (.t 107) (.c (.int .i64 0)), some (106, true)⟩, ⟨some 109, .pick (.t 106) (.t 108) (.c (.bool false)), none⟩]) (.cond (.t 109) .skip (.exit 6))) (.seq (.block 7 (.seq (.reg [⟨some 112, .mv (.t 5), none⟩, ⟨some 113, .mv (.t 11), none⟩, ⟨some 114, .idxA 1 (.t 112) (.t 113), none⟩, ⟨some 115, .ld 1 false (.t 114), none⟩, ⟨some 116, .mv (.t 8), none⟩, ⟨some 117, .bin .sub (.t 116) (.c (.int .i64 1)), none⟩, ⟨some 118, .bin .eql (.t 115) (.t 117), none⟩]) (.cond (.t 118) (.seq (.reg [⟨some 119, .mv (.t 11), none⟩, ⟨some 120, .bin .add (.t 119) (.c (.int .i64 1)), none⟩, ⟨some 121, .fldA 4 (.t 9), none⟩, ⟨none, .st 1 (.t 121) (.t 120), none⟩]) (.exit 6)) .skip))) (.reg [⟨some 110, .mv (.t 11), none⟩, ⟨some 111, .bin .sub (.t 110) (.c (.int .i64 1)), none⟩, ⟨some 11, .mv (.t 111), none⟩])))))) (.seq (.dreg [(⟨some 122, .fldA 0 (.t 4), none⟩, none), (⟨some 123, .ld 1 false (.t 122), none⟩, none), (⟨some 124, .fldA 4 (.t 9), none⟩, none), (⟨some 125, .ld 1 false (.t 124), none⟩, none), (⟨some 126, .fldA 0 (.t 4), none⟩, none), (⟨some 127, .ld 1 false (.t 126), none⟩, none), (⟨some 128, .fldA 4 (.t 9), none⟩, none), (⟨some 129, .ld 1 false (.t 128), none⟩, none), (⟨some 130, .idxA 6 (.t 127) (.t 129), none⟩, none), (⟨some 131, .fldA 5 (.t 130), none⟩, none), (⟨some 132, .ld 1 false (.t 131), none⟩, none), (⟨some 133, .fldA 0 (.t 4), none⟩, none), (⟨some 134, .ld 1 false (.t 133), none⟩, none), (⟨some 135, .len (.t 134), none⟩, none), (⟨some 136, .bldF 3 1 [.t 135], none⟩, none), (⟨some 137, .app 3 1 8 (.t 132) (.t 136), none⟩, (some [132, 127, 129, 134])), (⟨some 138, .idxA 6 (.t 123) (.t 125), none⟩, none), (⟨some 139, .fldA 5 (.t 138), none⟩, none), (⟨none, .st 1 (.t 139) (.t 137), none⟩, (some [123, 125, 132, 127, 129, 134]))]) (.seq (.reg [⟨some 140, .fldA 0 (.t 4), none⟩, ⟨some 141, .ld 1 false (.t 140), none⟩, ⟨some 142, .ld 6 true (.t 9), none⟩, ⟨some 143, .bldF 53 6 [.t 142], none⟩, ⟨some 144, .app 53 6 96 (.t 141) (.t 143), none⟩, ⟨some 145, .fldA 0 (.t 4), none⟩, ⟨none, .st 1 (.t 145) (.t 144), none⟩]) (.reg [⟨some 146, .mv (.t 5), none⟩, ⟨some 147, .mv (.t 8), none⟩, ⟨some 148, .bldF 3 1 [.t 147], none⟩, ⟨some 149, .app 3 1 8 (.t 146) (.t 148), none⟩, ⟨some 5, .mv (.t 149), none⟩]))))))))))))))))) c12_s6)
def c12_s3 : SCode := (.seq (.seq (.reg [⟨some 26, .mv (.t 0), none⟩, ⟨some 27, .bin .neq (.t 26) (.c (.str [])), none⟩, ⟨some 28, .mv (.t 27), none⟩, ⟨some 29, .mv (.t 0), some (28, true)⟩, ⟨some 30, .mv (.t 0), some (28, true)⟩, ⟨some 31, .lenS (.t 30), some (28, true)⟩, ⟨some 32, .bin .sub (.t 31) (.c (.int .i64 1)), some (28, true)⟩, ⟨some 33, .idxS (.t 29) (.t 32), some (28, true)⟩, ⟨some 34, .bin .neq (.t 33) (.c (.int .u8 10)), some (28, true)⟩, ⟨some 35, .pick (.t 28) (.t 34) (.c (.bool false)), none⟩]) (.cond (.t 35) (.seq (.reg [⟨some 36, .bld [.emp, .bool false] [], none⟩, ⟨none, .st 2 (.t 2) (.t 36), none⟩, ⟨some 3, .mv (.c (.bool false)), none⟩]) .ret) .skip)) (.seq (.reg [⟨some 5, .mv (.c .emp), none⟩]) c12_s5))
def c12 : SFun := ⟨.seq (.reg [⟨some 2, .new 29 2 [.emp, .bool false], none⟩, ⟨some 3, .mv (.c (.bool false)), none⟩]) (.seq (.reg [⟨some 12, .bld [.int .i64 0, .str [], .emp, .str [], .int .i64 0, .emp] [(0, (1, (.c (.int .i64 1)))), (4, (1, (.c (.int .i64 (-1)))))], none⟩, ⟨some 13, .bldR 53 6 [.t 12], none⟩, ⟨some 14, .bld [.emp, .bool false] [(0, (1, (.t 13)))], none⟩, ⟨some 4, .new 29 2 [.emp, .bool false], none⟩, ⟨none, .st 2 (.t 4) (.t 14), none⟩]) (.seq (.seq (.reg [⟨some 15, .mv (.t 0), none⟩, ⟨some 16, .lenS (.t 15), none⟩, ⟨some 17, .bin .geq (.t 16) (.c (.int .i64 2)), none⟩, ⟨some 18, .mv (.t 17), none⟩, ⟨some 19, .mv (.t 0), some (18, true)⟩, ⟨some 20, .slS (.t 19) none (some (.c (.int .i64 2))), some (18, true)⟩, ⟨some 21, .bin .eql (.t 20) (.c (.str [126, 10])), some (18, true)⟩, ⟨some 22, .pick (.t 18) (.t 21) (.c (.bool false)), none⟩]) (.cond (.t 22) (.seq (.reg [⟨some 23, .fldA 1 (.t 4), none⟩, ⟨none, .st 1 (.t 23) (.c (.bool true)), none⟩]) (.reg [⟨some 24, .mv (.t 0), none⟩, ⟨some 25, .slS (.t 24) (some (.c (.int .i64 2))) none, none⟩, ⟨some 0, .mv (.t 25), none⟩])) .skip)) c12_s3)), [.cell 2 2 true, .tmp 3]⟩
theorem hc12 : toSF Tryd.prog {pure := [24], how := [(13, 2)]} Tryd.f12 = some c12 := by kernel_rfl
theorem hn12 : (Tryd.f12.name == "runtime.NumGoroutine") = false := by kernel_rfl
def okR (D : HDoc) : HDoc × Bool := if docE D = 0 then (D, true) else (emptyD, false)
def okS : Option HDoc → HDoc × Bool
  | none => (emptyD, false)
  | some D => okR D
def RefK (h0 : Heap) (D : HDoc) (b : Bool) (a : AVal) (h' : Heap) : Prop := Sim.Sub h0 h' ∧ VwT (newH h0 h') a (.tup [.agg (eDoc D), .bool b])
theorem vw_emptyB (h : Heap) : VwT h (.tup [.agg [.emp, .bool false], .bool false]) (.tup [.agg (eDoc emptyD), .bool false]) :=
  .tup' (.cons (.agg' (.cons .emp (.cons (.refl _) .nil))) (.cons (.refl _) .nil))
theorem ref_end {h0 h : Heap} {r2 r4 rN : Nat} {D : HDoc} {sl' : Nat → AVal} {path : List Int} {pa : AVal} (h2n : h0 r2 = none)
    (B : Bk (upd h0 r2 (some ⟨.t 29, 2, [[.emp, .bool false]]⟩)) h r4 rN D sl' path pa) (S : SzB D) {e : Env} (e2 : e 2 = .vp r2 0) (e4 : e 4 = .vp r4 0) :
    vc (Pg G) c12_s6 (retK [.cell 2 2 true, .tmp 3] (RefK h0 (okR D).1 (okR D).2)) e h := by
  have hC := docErr_ok (G := G) D S.sm
  have hv : F2 (Vw h) [.agg [.osl rN 6 0 D.nodes.length, .bool D.quirks]] [.agg (eDoc D)] := .cons (.agg' (.cons B.dw.vw (.cons (.refl _) .nil))) .nil
  have L1 := lend hC (.int _ _) hv
  have g4 := B.doc
  have g2 : h r2 = some ⟨.t 29, 2, [[.emp, .bool false]]⟩ := B.dw.sub _ _ (upd_same _ _ _)
  have n1 : ¬ r4 = r2 := fun q => by have := B.r4n; rw [q, upd_same] at this; cases this
  have n2 : ¬ r2 = r4 := fun q => n1 q.symm
  have S0 : Sim.Sub h0 h := fun t o ht => B.dw.sub t o (by rw [upd_ne _ _ (fun q => by rw [q, h2n] at ht; cases ht)]; exact ht)
  unfold okR
  by_cases hd : docE D = 0
  · rw [if_pos hd]
    have b1 : (docE D != 0) = false := by rw [hd]; rfl
    skip
    simp -dsimp -implicitDefEqProofs (disch := omega) only [↓vcOps_sp 18, ↓vcD_sp 18, ↓vcOps_sp 28, ↓vcD_sp 28, ↓vcOps_sp 56, ↓vcD_sp 56, ↓vcOps_sp 73, ↓vcD_sp 73, ↓vcOps_sp 76, ↓vcD_sp 76, ↓vcOps_sp 80, ↓vcD_sp 80, ↓vcOps_sp 93, ↓vcD_sp 93, ↓vcOps_sp 106, ↓vcD_sp 106, VCA, pg_gl, ↓upd_none, Nat.reduceEqDiff, Nat.reduceBEq, Nat.reduceAdd, Nat.reduceSub, Nat.reduceMul, Nat.reduceLT, Nat.reduceLeDiff, ↓reduceIte, reduceCtorEq, rsOf, rootsOf, SOp.rd, SI.rd, SX.rd, rdL, rdO, rdP, okParts, eqCells, okEqCells, fillA, okFill, setAt, implies_true, forall_const, forall_eq, ne_eq, exists_eq_right_right, exists_eq_right, exists_eq_left, exists_eq_left', rootL, eAttr, eInt, eBool, lit_eq, c12_s6, e2, e4, g4]
    refine DCalls.of L1 ?_
    rintro a hh ⟨rfl, rfl⟩
    repeat' (first | ((with_reducible refine brC (fun _ => ?_) fun _ => ?_) <;> try (exfalso; omega)) | (with_reducible refine And.intro ?_ ?_; · omega) | simp -dsimp -implicitDefEqProofs (disch := omega) only [↓vcOps_sp 18, ↓vcD_sp 18, ↓vcOps_sp 28, ↓vcD_sp 28, ↓vcOps_sp 56, ↓vcD_sp 56, ↓vcOps_sp 73, ↓vcD_sp 73, ↓vcOps_sp 76, ↓vcD_sp 76, ↓vcOps_sp 80, ↓vcD_sp 80, ↓vcOps_sp 93, ↓vcD_sp 93, ↓vcOps_sp 106, ↓vcD_sp 106, VCA, pg_gl, ↓upd_none, Nat.reduceEqDiff, Nat.reduceBEq, Nat.reduceAdd, Nat.reduceSub, Nat.reduceMul, Nat.reduceLT, Nat.reduceLeDiff, ↓reduceIte, reduceCtorEq, rsOf, rootsOf, SOp.rd, SI.rd, SX.rd, rdL, rdO, rdP, okParts, eqCells, okEqCells, fillA, okFill, setAt, implies_true, forall_const, forall_eq, ne_eq, exists_eq_right_right, exists_eq_right, exists_eq_left, exists_eq_left', rootL, eAttr, eInt, eBool, lit_eq, e2, e4, g4, g2, b1, upd_same, n1, n2])
    have W := ((B.dw.less (X' := []) (fun t ht => by cases ht)).beside (r := r2) (Sub.refl h0 |>.upd h2n) (upd_same _ _ _) h2n (by simp) ⟨29, 2, [[.osl rN 6 0 D.nodes.length, .bool D.quirks]]⟩).new'.vw
    exact ⟨_, Sub.refl _, S0.upd h2n, .tup' (.cons (.agg' (.cons W (.cons (.refl _) .nil))) (.cons (.refl _) .nil))⟩
  · rw [if_neg hd]
    have b1 : (docE D != 0) = true := by simpa using hd
    skip
    simp -dsimp -implicitDefEqProofs (disch := omega) only [↓vcOps_sp 18, ↓vcD_sp 18, ↓vcOps_sp 28, ↓vcD_sp 28, ↓vcOps_sp 56, ↓vcD_sp 56, ↓vcOps_sp 73, ↓vcD_sp 73, ↓vcOps_sp 76, ↓vcD_sp 76, ↓vcOps_sp 80, ↓vcD_sp 80, ↓vcOps_sp 93, ↓vcD_sp 93, ↓vcOps_sp 106, ↓vcD_sp 106, VCA, pg_gl, ↓upd_none, Nat.reduceEqDiff, Nat.reduceBEq, Nat.reduceAdd, Nat.reduceSub, Nat.reduceMul, Nat.reduceLT, Nat.reduceLeDiff, ↓reduceIte, reduceCtorEq, rsOf, rootsOf, SOp.rd, SI.rd, SX.rd, rdL, rdO, rdP, okParts, eqCells, okEqCells, fillA, okFill, setAt, implies_true, forall_const, forall_eq, ne_eq, exists_eq_right_right, exists_eq_right, exists_eq_left, exists_eq_left', rootL, eAttr, eInt, eBool, lit_eq, c12_s6, e2, e4, g4]
    refine DCalls.of L1 ?_
    rintro a hh ⟨rfl, rfl⟩
    repeat' (first | ((with_reducible refine brC (fun _ => ?_) fun _ => ?_) <;> try (exfalso; omega)) | (with_reducible refine And.intro ?_ ?_; · omega) | simp -dsimp -implicitDefEqProofs (disch := omega) only [↓vcOps_sp 18, ↓vcD_sp 18, ↓vcOps_sp 28, ↓vcD_sp 28, ↓vcOps_sp 56, ↓vcD_sp 56, ↓vcOps_sp 73, ↓vcD_sp 73, ↓vcOps_sp 76, ↓vcD_sp 76, ↓vcOps_sp 80, ↓vcD_sp 80, ↓vcOps_sp 93, ↓vcD_sp 93, ↓vcOps_sp 106, ↓vcD_sp 106, VCA, pg_gl, ↓upd_none, Nat.reduceEqDiff, Nat.reduceBEq, Nat.reduceAdd, Nat.reduceSub, Nat.reduceMul, Nat.reduceLT, Nat.reduceLeDiff, ↓reduceIte, reduceCtorEq, rsOf, rootsOf, SOp.rd, SI.rd, SX.rd, rdL, rdO, rdP, okParts, eqCells, okEqCells, fillA, okFill, setAt, implies_true, forall_const, forall_eq, ne_eq, exists_eq_right_right, exists_eq_right, exists_eq_left, exists_eq_left', rootL, eAttr, eInt, eBool, lit_eq, e2, e4, g4, g2, b1, upd_same, n1, n2])
    exact ⟨_, Sub.refl _, S0.upd h2n, vw_emptyB _⟩
def RefI (h0 : Heap) (r2 r4 : Nat) (T : Option HDoc) (m : Nat) (e : Env) (h : Heap) : Prop :=
  ∃ (d : HDoc) (sl' : Nat → AVal) (rN : Nat) (path deep : List Int) (pa : AVal) (rest : List UInt8) (f : Nat), m = rest.length ∧ rest.length < f ∧ rest.length ≤ 1000000 ∧ strF f d path rest = T ∧ PathIn path d.nodes.length ∧ PD path deep ∧ d.nodes.length = deep.length + 1 ∧ path.length ≤ d.nodes.length ∧ 0 < path.length ∧ SzB d ∧
    (rest = [] ∨ rest.getD (rest.length - 1) 0 = 10) ∧
    e 0 = .str rest ∧ e 2 = .vp r2 0 ∧ e 3 = .bool false ∧ e 4 = .vp r4 0 ∧ e 5 = pa ∧ Bk (upd h0 r2 (some ⟨.t 29, 2, [[.emp, .bool false]]⟩)) h r4 rN d sl' deep pa
end Go.Proofs.K
end
section
set_option linter.unusedSimpArgs false
set_option linter.unusedVariables false
namespace Go.Proofs.K
open Go Go.Sim Go.Proofs
variable {G : Glob}
def sqR : SCode → SCode
  | .seq _ b => b
  | c => c
def sqL : SCode → SCode
  | .seq a _ => a
  | c => c
def inB : SCode → SCode
  | .block _ c => c
  | .loop c => c
  | c => c
def bodyC : SCode := sqR (sqR (sqR (sqR (sqR (sqR (sqR (sqR (sqR (inB (sqR (inB (inB (sqL c12_s5)))))))))))))
def restC : SCode := sqR bodyC
def parC : SCode := inB (inB (sqR (sqL bodyC)))
set_option maxHeartbeats 4000000 in
theorem ref_rest {h0 h : Heap} {r2 r4 rN r12 : Nat} {d : HDoc} {sl' : Nat → AVal} {deep : List Int} {pa : AVal} {x : HNode} {p : Int} {k : Nat} {more : List UInt8} (hxk : x.kids = []) (hpi : 0 ≤ p) (hpn : p.toNat < d.nodes.length) (S : SzB d) (hdl : d.nodes.length = deep.length + 1) (hr2 : d.nodes.length ≤ 200) (hk : k ≤ 1000000)
    (B : Bk (upd h0 r2 (some ⟨.t 29, 2, [[.emp, .bool false]]⟩)) h r4 rN d sl' deep pa) (hr12 : h r12 = none) {K1 : SExit → Env → Heap → Prop}
    (hK : ∀ e' h' sl2 rN' pa', e' 0 = .str more → e' 2 = .vp r2 0 → e' 3 = .bool false → e' 4 = .vp r4 0 → e' 5 = pa' → Bk (upd h0 r2 (some ⟨.t 29, 2, [[.emp, .bool false]]⟩)) h' r4 rN' (addKid d p x) sl2 (deep ++ [(k : Int)]) pa' → K1 .normal e' h')
    {e : Env} (e0 : e 0 = .str more) (e2 : e 2 = .vp r2 0) (e3 : e 3 = .bool false) (e4 : e 4 = .vp r4 0) (e5 : e 5 = pa) (e8 : e 8 = aInt k) (e9 : e 9 = .vp r12 0) :
    vc (Pg G) restC K1 e (upd h r12 (some ⟨.t 53, 6, [[aInt x.kind, .str x.name, sl eAttr x.attrs, .str x.text, aInt p, .emp]]⟩)) := by
  have g2 := B.r2v
  have g4 := B.doc
  have gN := B.dw.nodes
  have dl := S.2.1
  obtain ⟨b, hb⟩ : ∃ b, b = AVal.osl rN 6 0 d.nodes.length := ⟨_, rfl⟩
  have g4o := g4
  rw [← hb] at g4
  have bL : aLen b = aInt d.nodes.length := by rw [hb]; rfl
  have bL2 : okLen b = True := by rw [hb]; rfl
  have bV : isV b = true := by rw [hb]; rfl
  have bC : cellsOf b = [b] := by rw [hb]; rfl
  have bI : ∀ q : Int, okIdxA 6 b (.int .i64 q) = (0 ≤ q ∧ q < (d.nodes.length : Int)) := fun q => by rw [hb, okIdxA_osl]; simp
  have bI2 : ∀ q : Int, aIdxA b (.int .i64 q) = .ptr rN q.toNat 0 := fun q => by rw [hb, aIdxA_osl, Nat.zero_add]
  have pV : isV pa = true ∧ cellsOf pa = [pa] := by
    rcases B.pt.live B.pm with ⟨_, q⟩ | ⟨_, _, q, _⟩
    · rw [q]; exact ⟨rfl, rfl⟩
    · rw [q]; exact ⟨rfl, rfl⟩
  have pn := B.pn
  have m4 : ¬ r4 = r12 := fun q => by rw [q, hr12] at g4; cases g4
  have m2 : ¬ r2 = r12 := fun q => by rw [q, hr12] at g2; cases g2
  have mN : ¬ rN = r12 := fun q => by rw [q, hr12] at gN; cases gN
  have m4' : ¬ r12 = r4 := fun q => m4 q.symm
  have mN' : ¬ r12 = rN := fun q => mN q.symm
  have k4N : ¬ r4 = rN := fun q => B.dw.new.2 (by rw [← q]; simp)
  have kN4 : ¬ rN = r4 := fun q => k4N q.symm
  have gi := rowsA_get (sl := sl') hpn
  have wl := rowsA_len d sl'
  unfold rowA at *
  skip
  simp -dsimp -implicitDefEqProofs (disch := omega) only [↓vcOps_sp 18, ↓vcD_sp 18, ↓vcOps_sp 28, ↓vcD_sp 28, ↓vcOps_sp 56, ↓vcD_sp 56, ↓vcOps_sp 73, ↓vcD_sp 73, ↓vcOps_sp 76, ↓vcD_sp 76, ↓vcOps_sp 80, ↓vcD_sp 80, ↓vcOps_sp 93, ↓vcD_sp 93, ↓vcOps_sp 106, ↓vcD_sp 106, VCA, pg_gl, ↓upd_none, Nat.reduceEqDiff, Nat.reduceBEq, Nat.reduceAdd, Nat.reduceSub, Nat.reduceMul, Nat.reduceLT, Nat.reduceLeDiff, ↓reduceIte, reduceCtorEq, rsOf, rootsOf, SOp.rd, SI.rd, SX.rd, rdL, rdO, rdP, okParts, eqCells, okEqCells, fillA, okFill, setAt, implies_true, forall_const, forall_eq, ne_eq, exists_eq_right_right, exists_eq_right, exists_eq_left, exists_eq_left', rootL, eAttr, eInt, eBool, lit_eq, restC, bodyC, sqR, sqL, inB, c12_s5, e0, e2, e3, e4, e5, e8, e9, g2, g4, bL, bL2, bV, bC, bI, bI2, gN, m4, m4', mN, mN', upd_same, gi, wl]
  refine ⟨⟨hpi, by omega⟩, hpn, ?_⟩
  obtain ⟨H, hH⟩ : ∃ H, H = upd h r12 (some ⟨.t 53, 6, [[aInt x.kind, .str x.name, sl eAttr x.attrs, .str x.text, aInt p, .emp]]⟩) := ⟨_, rfl⟩
  rw [← hH]
  have S1 : Sim.Sub h H := by rw [hH]; exact (Sub.refl _).upd hr12
  have EH := B.dw.mono S1
  have H12 : H r12 = some ⟨.t 53, 6, [[aInt x.kind, .str x.name, sl eAttr x.attrs, .str x.text, aInt p, .emp]]⟩ := by rw [hH, upd_same]
  have H4 := S1 _ _ g4
  have H2 := S1 _ _ g2
  have HN := EH.nodes
  have O2 := (EH.own _ hpn).2
  have M2 := B.live _ hpn
  have f2 := fun (r : Nat) (hr : rootOf (sl' (2 * p.toNat + 1)) = some r) => EH.fresh (2 * p.toNat + 1) (by omega) r hr
  have kl := (S.2.2 _ hpn).2
  refine O2.app M2 (by rw [List.length_map, List.length_singleton]; omega) (by rw [List.length_map, List.length_singleton]; omega) fun rK h3 q1 q2 q3 => ?_
  rw [List.length_map, List.length_singleton]
  have e2N : rootOf (sl' (2 * p.toNat + 1)) ≠ some rN := fun q => (f2 _ q).2.1 rfl
  have e24 : rootOf (sl' (2 * p.toNat + 1)) ≠ some r4 := fun q => (f2 _ q).2.2 (by simp)
  have e22 : rootOf (sl' (2 * p.toNat + 1)) ≠ some r2 := fun q => by have := (f2 _ q).1; rw [upd_same] at this; cases this
  have e212 : rootOf (sl' (2 * p.toNat + 1)) ≠ some r12 := fun q => by
    obtain ⟨o, ho⟩ := B.dw.slot (k := 2 * p.toNat + 1) (by omega) q
    rw [hr12] at ho; cases ho
  have k4 := q3 _ _ H4 e24
  have k2 := q3 _ _ H2 e22
  have kN := q3 _ _ HN e2N
  have k12 := q3 _ _ H12 e212
  refine ⟨fun y hy hc => ?_, ?_⟩
  · have hy2 : y.2 = r4 ∨ y.2 = rN ∨ y.2 = r12 := by
      simp only [List.mem_cons, List.not_mem_nil, or_false] at hy
      rcases hy with rfl | rfl | rfl | rfl | rfl | rfl | rfl <;> simp
    rcases hy2 with q | q | q
    · rw [q, k4, H4]
    · rw [q, kN, HN]
    · rw [q, k12, H12]
  simp -dsimp -implicitDefEqProofs (disch := omega) only [↓vcOps_sp 18, ↓vcD_sp 18, ↓vcOps_sp 28, ↓vcD_sp 28, ↓vcOps_sp 56, ↓vcD_sp 56, ↓vcOps_sp 73, ↓vcD_sp 73, ↓vcOps_sp 76, ↓vcD_sp 76, ↓vcOps_sp 80, ↓vcD_sp 80, ↓vcOps_sp 93, ↓vcD_sp 93, ↓vcOps_sp 106, ↓vcD_sp 106, VCA, pg_gl, ↓upd_none, Nat.reduceEqDiff, Nat.reduceBEq, Nat.reduceAdd, Nat.reduceSub, Nat.reduceMul, Nat.reduceLT, Nat.reduceLeDiff, ↓reduceIte, reduceCtorEq, rsOf, rootsOf, SOp.rd, SI.rd, SX.rd, rdL, rdO, rdP, okParts, eqCells, okEqCells, fillA, okFill, setAt, implies_true, forall_const, forall_eq, ne_eq, exists_eq_right_right, exists_eq_right, exists_eq_left, exists_eq_left', rootL, eAttr, eInt, eBool, lit_eq, e0, e2, e3, e4, e5, e8, e9, bL, bL2, bV, bC, bI, bI2, k2, k4, kN, k12, m4, m4', mN, mN', upd_same, gi, wl, k4N, kN4]
  refine ⟨⟨hpi, by omega⟩, hpn, ?_⟩
  obtain ⟨y, hy⟩ : ∃ y : HNode, y = { nth d.nodes p.toNat with kids := (nth d.nodes p.toNat).kids ++ [(d.nodes.length : Int)] } := ⟨_, rfl⟩
  obtain ⟨H5, hH5⟩ : ∃ H5, H5 = upd h3 rN (some ⟨.t 53, 6, (rowsA d sl').set p.toNat (rowA y (sl' (2 * p.toNat)) (.osl rK 1 0 ((nth d.nodes p.toNat).kids.length + 1)))⟩) := ⟨_, rfl⟩
  have E3 := EH.kid hpn q1 q2 q3
  rw [← hy] at E3
  replace E3 : Dw [r4] (upd h0 r2 (some ⟨.t 29, 2, [[.emp, .bool false]]⟩)) H5 rN ⟨d.nodes.set p.toNat y, d.quirks⟩ (upd sl' (2 * p.toNat + 1) (.osl rK 1 0 ((nth d.nodes p.toNat).kids.length + 1))) := by rw [hH5]; exact E3
  rw [show (upd h3 rN (some ⟨.t 53, 6, (rowsA d sl').set p.toNat [aInt (nth d.nodes p.toNat).kind, .str (nth d.nodes p.toNat).name, sl' (2 * p.toNat), .str (nth d.nodes p.toNat).text, aInt (nth d.nodes p.toNat).parent, .osl rK 1 0 ((nth d.nodes p.toNat).kids.length + 1)]⟩) : Heap) = H5 from by rw [hH5, hy]; rfl]
  have l1 : (d.nodes.set p.toNat y).length = d.nodes.length := List.length_set
  obtain ⟨O5, M5⟩ := E3.rows
  simp only [l1] at O5 M5
  rw [hb]
  have l5 : (rowsA ⟨d.nodes.set p.toNat y, d.quirks⟩ (upd sl' (2 * p.toNat + 1) (.osl rK 1 0 ((nth d.nodes p.toNat).kids.length + 1)))).length = d.nodes.length := by rw [rowsA_len]; exact l1
  refine O5.app M5 (by rw [l5, List.length_singleton]; omega) (by rw [l5, List.length_singleton]; omega) fun rN' h6 s1 s2 s3 => ?_
  rw [l5, List.length_singleton]
  have k5 : ∀ r o, h3 r = some o → r ≠ rN → H5 r = some o := fun r o ho hne => by rw [hH5, upd_ne _ _ hne]; exact ho
  have bn : ∀ r, r ≠ rN → rootOf (AVal.osl rN 6 0 d.nodes.length) ≠ some r := fun r hne q => hne (by cases q; rfl)
  have j4 := s3 _ _ (k5 _ _ k4 k4N) (bn _ k4N)
  have k2N : r2 ≠ rN := fun q => by have := B.dw.new.1; rw [← q, upd_same] at this; cases this
  have j2 := s3 _ _ (k5 _ _ k2 k2N) (bn _ k2N)
  have n24 : ¬ r2 = r4 := fun q => by have := B.r4n; rw [← q, upd_same] at this; cases this
  simp -dsimp -implicitDefEqProofs (disch := omega) only [↓vcOps_sp 18, ↓vcD_sp 18, ↓vcOps_sp 28, ↓vcD_sp 28, ↓vcOps_sp 56, ↓vcD_sp 56, ↓vcOps_sp 73, ↓vcD_sp 73, ↓vcOps_sp 76, ↓vcD_sp 76, ↓vcOps_sp 80, ↓vcD_sp 80, ↓vcOps_sp 93, ↓vcD_sp 93, ↓vcOps_sp 106, ↓vcD_sp 106, VCA, pg_gl, ↓upd_none, Nat.reduceEqDiff, Nat.reduceBEq, Nat.reduceAdd, Nat.reduceSub, Nat.reduceMul, Nat.reduceLT, Nat.reduceLeDiff, ↓reduceIte, reduceCtorEq, rsOf, rootsOf, SOp.rd, SI.rd, SX.rd, rdL, rdO, rdP, okParts, eqCells, okEqCells, fillA, okFill, setAt, implies_true, forall_const, forall_eq, ne_eq, exists_eq_right_right, exists_eq_right, exists_eq_left, exists_eq_left', rootL, eAttr, eInt, eBool, lit_eq, e0, e2, e3, e4, e5, e8, e9, bL, bL2, bV, bC, j4, j2, upd_same, pV.1, pV.2]
  obtain ⟨H7, hH7⟩ : ∃ H7, H7 = upd h6 r4 (some ⟨.t 29, 2, [[.osl rN' 6 0 (d.nodes.length + 1), .bool d.quirks]]⟩) := ⟨_, rfl⟩
  rw [← hH7]
  have fN : rN' = rN ∨ H5 rN' = none := by
    rcases s2 with q | q
    · cases q; exact .inl rfl
    · exact .inr q
  have E4 := E3.add (h2 := h6) (rN' := rN') (x := { x with parent := p }) (a' := sl eAttr x.attrs) hxk s1 (fun r o ho hne => s3 r o ho (bn r hne)) (.inr (.inl ⟨rfl, fun e he => by obtain ⟨z, _, rfl⟩ := List.mem_map.1 he; rfl⟩)) (fun r hr => by cases hr) fN
  have hak : addN ⟨d.nodes.set p.toNat y, d.quirks⟩ { x with parent := p } = addKid d p x := by rw [hy]; rfl
  have E5 := E4.other (r := r4) (by simp) B.r4n ⟨29, 2, [[.osl rN' 6 0 (d.nodes.length + 1), .bool d.quirks]]⟩
  rw [hak] at E5
  simp only [l1] at E5
  obtain ⟨sl2, hsl2⟩ : ∃ sl2, sl2 = upd (upd (upd sl' (2 * p.toNat + 1) (.osl rK 1 0 ((nth d.nodes p.toNat).kids.length + 1))) (2 * d.nodes.length) (sl eAttr x.attrs)) (2 * d.nodes.length + 1) .emp := ⟨_, rfl⟩
  replace E5 : Dw [r4] (upd h0 r2 (some ⟨.t 29, 2, [[.emp, .bool false]]⟩)) H7 rN' (addKid d p x) sl2 := by rw [hH7, hsl2]; exact E5
  have al := addKid_len d p x
  have slots : ∀ k, k < 2 * (d.nodes.length + 1) → (k = 2 * d.nodes.length + 1 ∧ sl2 k = .emp) ∨ (k = 2 * d.nodes.length ∧ sl2 k = sl eAttr x.attrs) ∨ (k < 2 * d.nodes.length ∧ k = 2 * p.toNat + 1 ∧ sl2 k = .osl rK 1 0 ((nth d.nodes p.toNat).kids.length + 1)) ∨ (k < 2 * d.nodes.length ∧ k ≠ 2 * p.toNat + 1 ∧ sl2 k = sl' k) := fun k hk => by
    rw [hsl2]
    by_cases c1 : k = 2 * d.nodes.length + 1
    · exact .inl ⟨c1, by rw [c1, upd_same]⟩
    · rw [upd_ne _ _ c1]
      by_cases c2 : k = 2 * d.nodes.length
      · exact .inr (.inl ⟨c2, by rw [c2, upd_same]⟩)
      · rw [upd_ne _ _ c2]
        by_cases c3 : k = 2 * p.toNat + 1
        · exact .inr (.inr (.inl ⟨by omega, c3, by rw [c3, upd_same]⟩))
        · exact .inr (.inr (.inr ⟨by omega, c3, upd_ne _ _ c3⟩))
  have live2 : ∀ i, i < (addKid d p x).nodes.length → Mut (sl2 (2 * i + 1)) := fun i hi => by
    rw [al] at hi
    rcases slots (2 * i + 1) (by omega) with ⟨_, w⟩ | ⟨w1, _⟩ | ⟨_, _, w⟩ | ⟨w1, _, w⟩
    · rw [w]; exact fun es q => by cases q
    · omega
    · rw [w]; exact fun es q => by cases q
    · rw [w]; exact B.live i (by omega)
  have pk : ∀ r o, rootOf pa = some r → h r = some o → H7 r = some o := fun r o hr ho => by
    obtain ⟨z1, z2, z3, z4⟩ := pn r hr
    have w1 := q3 _ _ (S1 _ _ ho) (z4 (2 * p.toNat + 1) (by omega))
    have w2 := s3 _ _ (k5 _ _ w1 z3) (bn _ z3)
    rw [hH7, upd_ne _ _ z2]; exact w2
  have pnew : ∀ r, rootOf pa = some r → r ≠ rN' ∧ ∀ k, k < 2 * (d.nodes.length + 1) → rootOf (sl2 k) ≠ some r := fun r hr => by
    obtain ⟨z1, z2, z3, z4⟩ := pn r hr
    obtain ⟨o, ho⟩ := B.pt.root hr
    have w1 := q3 _ _ (S1 _ _ ho) (z4 (2 * p.toNat + 1) (by omega))
    refine ⟨fun q => ?_, fun k hk q => ?_⟩
    · rcases fN with w | w
      · exact z3 (q.trans w)
      · rw [← q, k5 _ _ w1 z3] at w; cases w
    · rcases slots k hk with ⟨_, w⟩ | ⟨_, w⟩ | ⟨_, _, w⟩ | ⟨w1, _, w⟩
      · rw [w] at q; cases q
      · rw [w] at q; cases q
      · rw [w] at q; cases q
        rcases q2 with w | w
        · exact z4 _ (by omega) w
        · rw [S1 _ _ ho] at w; cases w
      · rw [w] at q; exact z4 k w1 q
  have O7 := B.pt.keep (h2 := H7) pk
  have dk : (deep.map eInt).length = deep.length := List.length_map _
  refine O7.app B.pm (by rw [dk, List.length_singleton]; omega) (by rw [dk, List.length_singleton]; omega) fun rP' h8 t1 t2 t3 => ?_
  rw [dk, List.length_singleton]
  simp -dsimp -implicitDefEqProofs (disch := omega) only [↓vcOps_sp 18, ↓vcD_sp 18, ↓vcOps_sp 28, ↓vcD_sp 28, ↓vcOps_sp 56, ↓vcD_sp 56, ↓vcOps_sp 73, ↓vcD_sp 73, ↓vcOps_sp 76, ↓vcD_sp 76, ↓vcOps_sp 80, ↓vcD_sp 80, ↓vcOps_sp 93, ↓vcD_sp 93, ↓vcOps_sp 106, ↓vcD_sp 106, VCA, pg_gl, ↓upd_none, Nat.reduceEqDiff, Nat.reduceBEq, Nat.reduceAdd, Nat.reduceSub, Nat.reduceMul, Nat.reduceLT, Nat.reduceLeDiff, ↓reduceIte, reduceCtorEq, rsOf, rootsOf, SOp.rd, SI.rd, SX.rd, rdL, rdO, rdP, okParts, eqCells, okEqCells, fillA, okFill, setAt, implies_true, forall_const, forall_eq, ne_eq, exists_eq_right_right, exists_eq_right, exists_eq_left, exists_eq_left', rootL, eAttr, eInt, eBool, lit_eq, e0, e2, e3, e4, e5, e8]
  have E8 : Dw [r4] (upd h0 r2 (some ⟨.t 29, 2, [[.emp, .bool false]]⟩)) h8 rN' (addKid d p x) sl2 := by
    cases hro : rootOf pa with
    | none => exact E5.mono fun r o ho => t3 r o ho (by rw [hro]; exact fun q => by cases q)
    | some rP =>
      obtain ⟨z1, z2, z3, z4⟩ := pn rP hro
      obtain ⟨y1, y2⟩ := pnew rP hro
      exact E5.frame (rP := rP) (fun r o ho hne => t3 r o ho (by rw [hro]; exact fun q => hne (by cases q; rfl))) z1 y1 (by simpa using z2) (by rw [al]; exact y2)
  have d4 : h8 r4 = some ⟨.t 29, 2, [[.osl rN' 6 0 (addKid d p x).nodes.length, .bool (addKid d p x).quirks]]⟩ := by
    rw [al]
    exact t3 _ _ (by rw [hH7, upd_same]; rfl) (fun q => (pn _ q).2.1 rfl)
  refine hK _ h8 sl2 rN' (.osl rP' 1 0 (deep.length + 1)) (by simp [upd, e0]) (by simp [upd, e2]) (by simp [upd, e3]) (by simp [upd, e4]) (by simp [upd]) ?_
  refine ⟨E8, B.r4n, d4, ?_, (fun es q => by cases q), (fun r hr => ?_), live2⟩
  · refine .inr (.inr ⟨rP', _, ?_, t1, ?_, ?_⟩)
    · rw [List.length_map, List.length_append, List.length_singleton]
    · rw [List.length_map, List.length_append, List.length_append, List.length_map, List.length_singleton, List.length_singleton]; exact Nat.le_refl _
    · rw [List.take_of_length_le (by rw [List.length_map, List.length_append, List.length_append, List.length_map, List.length_singleton, List.length_singleton]; exact Nat.le_refl _), List.map_append]; rfl
  · cases hr
    rcases t2 with w | w
    · obtain ⟨z1, z2, z3, z4⟩ := pn _ w
      obtain ⟨y1, y2⟩ := pnew _ w
      exact ⟨z1, z2, y1, by rw [al]; exact y2⟩
    · refine ⟨E5.sub.none w, fun q => ?_, fun q => ?_, fun k hk q => ?_⟩
      · rw [q, hH7, upd_same] at w; cases w
      · rw [q, E5.nodes] at w; cases w
      · obtain ⟨o, ho⟩ := E5.slot hk q
        rw [w] at ho; cases ho
end Go.Proofs.K
end
section
set_option linter.unusedSimpArgs false
set_option linter.unusedVariables false
namespace Go.Proofs.K
open Go Go.Sim Go.Proofs
variable {G : Glob}
set_option maxHeartbeats 4000000 in
theorem ref_par {h0 h : Heap} {r2 r4 rN r12 : Nat} {d : HDoc} {sl' : Nat → AVal} {path deep : List Int} {pa : AVal} {x : HNode} {k : Nat} {more : List UInt8} (hxk : x.kids = []) (P : PD path deep) (hP : PathIn path d.nodes.length) (hkp : k < path.length) (S : SzB d) (hdl : d.nodes.length = deep.length + 1) (hr2 : d.nodes.length ≤ 200) (hk : k ≤ 1000000)
    (B : Bk (upd h0 r2 (some ⟨.t 29, 2, [[.emp, .bool false]]⟩)) h r4 rN d sl' deep pa) (hr12 : h r12 = none) {K1 K2 : SExit → Env → Heap → Prop}
    (hK : ∀ e' h' sl2 rN' pa', e' 0 = .str more → e' 2 = .vp r2 0 → e' 3 = .bool false → e' 4 = .vp r4 0 → e' 5 = pa' → Bk (upd h0 r2 (some ⟨.t 29, 2, [[.emp, .bool false]]⟩)) h' r4 rN' (addKid d (nth path k) x) sl2 (deep ++ [(k : Int)]) pa' → K1 .normal e' h')
    {e : Env} (e0 : e 0 = .str more) (e2 : e 2 = .vp r2 0) (e3 : e 3 = .bool false) (e4 : e 4 = .vp r4 0) (e5 : e 5 = pa) (e8 : e 8 = aInt k) (e9 : e 9 = .vp r12 0) (e11 : e 11 = aInt ((deep.length : Int) - 1)) :
    LoopVC (vc (Pg G) parC) (blockK 6 (thenK (vc (Pg G) restC K1) K2)) e (upd h r12 (some ⟨.t 53, 6, [[aInt x.kind, .str x.name, sl eAttr x.attrs, .str x.text, aInt 0, .emp]]⟩)) := by
  have dl := S.2.1
  have hpi := hP _ (nth_mem' (l := path) (k := k) hkp)
  refine LoopVC.intro (fun m e H => ∃ i : Int, m = (i + 1).toNat ∧ -1 ≤ i ∧ i < deep.length ∧ e 0 = .str more ∧ e 2 = .vp r2 0 ∧ e 3 = .bool false ∧ e 4 = .vp r4 0 ∧ e 5 = pa ∧ e 8 = aInt k ∧ e 9 = .vp r12 0 ∧ e 11 = aInt i ∧ H = upd h r12 (some ⟨.t 53, 6, [[aInt x.kind, .str x.name, sl eAttr x.attrs, .str x.text, aInt 0, .emp]]⟩) ∧
      ∀ j : Nat, i < j → j < deep.length → 0 < k → nth deep j ≠ (k : Int) - 1) deep.length
    ⟨(deep.length : Int) - 1, by omega, by omega, by omega, e0, e2, e3, e4, e5, e8, e9, e11, rfl, fun j h1 h2 => by omega⟩ ?_
  clear e0 e2 e3 e4 e5 e8 e9 e11
  rintro m e H ⟨i, rfl, hi0, hi1, e0, e2, e3, e4, e5, e8, e9, e11, rfl, inv⟩
  skip
  by_cases hk0 : k = 0
  · subst hk0
    have pt : nth path 0 = 0 := P.top
    rw [pt] at hK hpi
    by_cases hip : 0 ≤ i
    all_goals (
      simp -dsimp -implicitDefEqProofs (disch := omega) only [↓vcOps_sp 18, ↓vcD_sp 18, ↓vcOps_sp 28, ↓vcD_sp 28, ↓vcOps_sp 56, ↓vcD_sp 56, ↓vcOps_sp 73, ↓vcD_sp 73, ↓vcOps_sp 76, ↓vcD_sp 76, ↓vcOps_sp 80, ↓vcD_sp 80, ↓vcOps_sp 93, ↓vcD_sp 93, ↓vcOps_sp 106, ↓vcD_sp 106, VCA, pg_gl, ↓upd_none, Nat.reduceEqDiff, Nat.reduceBEq, Nat.reduceAdd, Nat.reduceSub, Nat.reduceMul, Nat.reduceLT, Nat.reduceLeDiff, ↓reduceIte, reduceCtorEq, rsOf, rootsOf, SOp.rd, SI.rd, SX.rd, rdL, rdO, rdP, okParts, eqCells, okEqCells, fillA, okFill, setAt, implies_true, forall_const, forall_eq, ne_eq, exists_eq_right_right, exists_eq_right, exists_eq_left, exists_eq_left', rootL, eAttr, eInt, eBool, lit_eq, parC, bodyC, sqR, sqL, inB, c12_s5]
      repeat' (first | ((with_reducible refine brC (fun _ => ?_) fun _ => ?_) <;> try (exfalso; omega)) | (with_reducible refine And.intro ?_ ?_; · omega) | simp -dsimp -implicitDefEqProofs (disch := omega) only [↓vcOps_sp 18, ↓vcD_sp 18, ↓vcOps_sp 28, ↓vcD_sp 28, ↓vcOps_sp 56, ↓vcD_sp 56, ↓vcOps_sp 73, ↓vcD_sp 73, ↓vcOps_sp 76, ↓vcD_sp 76, ↓vcOps_sp 80, ↓vcD_sp 80, ↓vcOps_sp 93, ↓vcD_sp 93, ↓vcOps_sp 106, ↓vcD_sp 106, VCA, pg_gl, ↓upd_none, Nat.reduceEqDiff, Nat.reduceBEq, Nat.reduceAdd, Nat.reduceSub, Nat.reduceMul, Nat.reduceLT, Nat.reduceLeDiff, ↓reduceIte, reduceCtorEq, rsOf, rootsOf, SOp.rd, SI.rd, SX.rd, rdL, rdO, rdP, okParts, eqCells, okEqCells, fillA, okFill, setAt, implies_true, forall_const, forall_eq, ne_eq, exists_eq_right_right, exists_eq_right, exists_eq_left, exists_eq_left', rootL, eAttr, eInt, eBool, lit_eq, e0, e2, e3, e4, e5, e8, e9, e11]))
    all_goals try (exfalso; omega)
    all_goals exact ref_rest (p := 0) hxk hpi.1 (by omega) S hdl hr2 hk B hr12 hK (by simp [upd, e0]) (by simp [upd, e2]) (by simp [upd, e3]) (by simp [upd, e4]) (by simp [upd, e5]) (by simp [upd, e8]) (by simp [upd, e9])
  · obtain ⟨i0, h1, h2, h3, h4⟩ := P.at_ (k - 1) (by omega)
    rw [show k - 1 + 1 = k by omega] at h2
    have hle : (i0 : Int) ≤ i := by
      apply Classical.byContradiction; intro q
      exact inv i0 (by omega) h1 (by omega) (by rw [h3]; omega)
    obtain ⟨i, rfl⟩ : ∃ n : Nat, i = n := ⟨i.toNat, by omega⟩
    rcases B.pt.live B.pm with ⟨q, _⟩ | ⟨rP, es, hpa, gP, hle2, hes⟩
    · exfalso
      have q0 := congrArg List.length q
      rw [List.length_map] at q0
      change deep.length = 0 at q0
      omega
    rw [List.length_map] at hpa hle2 hes
    have hdi : i < deep.length := by omega
    have hg : es.getD i [] = [aInt (nth deep i)] := by
      have : (es.take deep.length)[i]? = (deep.map eInt)[i]? := by rw [hes]
      rw [List.getElem?_take, if_pos hdi, List.getElem?_map, nth_some hdi] at this
      rw [List.getD_eq_getElem?_getD, this]; rfl
    have mP : ¬ rP = r12 := fun q => by rw [q, hr12] at gP; cases gP
    have td : ((i : Int)).toNat = i := by omega
    by_cases hii : i = i0
    · have b1 : (nth deep i == (k : Int) - 1) = true := by rw [hii, h3, beq_iff_eq]; omega
      rw [h2] at hK hpi
      simp -dsimp -implicitDefEqProofs (disch := omega) only [↓vcOps_sp 18, ↓vcD_sp 18, ↓vcOps_sp 28, ↓vcD_sp 28, ↓vcOps_sp 56, ↓vcD_sp 56, ↓vcOps_sp 73, ↓vcD_sp 73, ↓vcOps_sp 76, ↓vcD_sp 76, ↓vcOps_sp 80, ↓vcD_sp 80, ↓vcOps_sp 93, ↓vcD_sp 93, ↓vcOps_sp 106, ↓vcD_sp 106, VCA, pg_gl, ↓upd_none, Nat.reduceEqDiff, Nat.reduceBEq, Nat.reduceAdd, Nat.reduceSub, Nat.reduceMul, Nat.reduceLT, Nat.reduceLeDiff, ↓reduceIte, reduceCtorEq, rsOf, rootsOf, SOp.rd, SI.rd, SX.rd, rdL, rdO, rdP, okParts, eqCells, okEqCells, fillA, okFill, setAt, implies_true, forall_const, forall_eq, ne_eq, exists_eq_right_right, exists_eq_right, exists_eq_left, exists_eq_left', rootL, eAttr, eInt, eBool, lit_eq, parC, bodyC, sqR, sqL, inB, c12_s5]
      repeat' (first | ((with_reducible refine brC (fun _ => ?_) fun _ => ?_) <;> try (exfalso; omega)) | (with_reducible refine And.intro ?_ ?_; · omega) | simp -dsimp -implicitDefEqProofs (disch := omega) only [↓vcOps_sp 18, ↓vcD_sp 18, ↓vcOps_sp 28, ↓vcD_sp 28, ↓vcOps_sp 56, ↓vcD_sp 56, ↓vcOps_sp 73, ↓vcD_sp 73, ↓vcOps_sp 76, ↓vcD_sp 76, ↓vcOps_sp 80, ↓vcD_sp 80, ↓vcOps_sp 93, ↓vcD_sp 93, ↓vcOps_sp 106, ↓vcD_sp 106, VCA, pg_gl, ↓upd_none, Nat.reduceEqDiff, Nat.reduceBEq, Nat.reduceAdd, Nat.reduceSub, Nat.reduceMul, Nat.reduceLT, Nat.reduceLeDiff, ↓reduceIte, reduceCtorEq, rsOf, rootsOf, SOp.rd, SI.rd, SX.rd, rdL, rdO, rdP, okParts, eqCells, okEqCells, fillA, okFill, setAt, implies_true, forall_const, forall_eq, ne_eq, exists_eq_right_right, exists_eq_right, exists_eq_left, exists_eq_left', rootL, eAttr, eInt, eBool, lit_eq, e0, e2, e3, e4, e5, e8, e9, e11, hpa, gP, hg, mP, td, upd_same, b1])
      all_goals try (exfalso; omega)
      subst hii
      all_goals exact ref_rest hxk hpi.1 (by omega) S hdl hr2 hk B hr12 hK (by simp [upd, e0]) (by simp [upd, e2]) (by simp [upd, e3]) (by simp [upd, e4]) (by simp [upd, e5, hpa]) (by simp [upd, e8]) (by simp [upd, e9])
    · have b1 : (nth deep i == (k : Int) - 1) = false := by
        rw [beq_eq_false_iff_ne]; intro q
        exact h4 i (by omega) hdi (by rw [q]; omega)
      simp -dsimp -implicitDefEqProofs (disch := omega) only [↓vcOps_sp 18, ↓vcD_sp 18, ↓vcOps_sp 28, ↓vcD_sp 28, ↓vcOps_sp 56, ↓vcD_sp 56, ↓vcOps_sp 73, ↓vcD_sp 73, ↓vcOps_sp 76, ↓vcD_sp 76, ↓vcOps_sp 80, ↓vcD_sp 80, ↓vcOps_sp 93, ↓vcD_sp 93, ↓vcOps_sp 106, ↓vcD_sp 106, VCA, pg_gl, ↓upd_none, Nat.reduceEqDiff, Nat.reduceBEq, Nat.reduceAdd, Nat.reduceSub, Nat.reduceMul, Nat.reduceLT, Nat.reduceLeDiff, ↓reduceIte, reduceCtorEq, rsOf, rootsOf, SOp.rd, SI.rd, SX.rd, rdL, rdO, rdP, okParts, eqCells, okEqCells, fillA, okFill, setAt, implies_true, forall_const, forall_eq, ne_eq, exists_eq_right_right, exists_eq_right, exists_eq_left, exists_eq_left', rootL, eAttr, eInt, eBool, lit_eq, parC, bodyC, sqR, sqL, inB, c12_s5]
      repeat' (first | ((with_reducible refine brC (fun _ => ?_) fun _ => ?_) <;> try (exfalso; omega)) | (with_reducible refine And.intro ?_ ?_; · omega) | simp -dsimp -implicitDefEqProofs (disch := omega) only [↓vcOps_sp 18, ↓vcD_sp 18, ↓vcOps_sp 28, ↓vcD_sp 28, ↓vcOps_sp 56, ↓vcD_sp 56, ↓vcOps_sp 73, ↓vcD_sp 73, ↓vcOps_sp 76, ↓vcD_sp 76, ↓vcOps_sp 80, ↓vcD_sp 80, ↓vcOps_sp 93, ↓vcD_sp 93, ↓vcOps_sp 106, ↓vcD_sp 106, VCA, pg_gl, ↓upd_none, Nat.reduceEqDiff, Nat.reduceBEq, Nat.reduceAdd, Nat.reduceSub, Nat.reduceMul, Nat.reduceLT, Nat.reduceLeDiff, ↓reduceIte, reduceCtorEq, rsOf, rootsOf, SOp.rd, SI.rd, SX.rd, rdL, rdO, rdP, okParts, eqCells, okEqCells, fillA, okFill, setAt, implies_true, forall_const, forall_eq, ne_eq, exists_eq_right_right, exists_eq_right, exists_eq_left, exists_eq_left', rootL, eAttr, eInt, eBool, lit_eq, e0, e2, e3, e4, e5, e8, e9, e11, hpa, gP, hg, mP, td, upd_same, b1])
      all_goals try (exfalso; omega)
      have z := beq_eq_false_iff_ne.1 b1
      all_goals exact ⟨_, by omega, (i : Int) - 1, rfl, by omega, by omega, rfl, fun j q1 q2 q3 => by
        by_cases hj : j = i
        · rw [hj]; exact z
        · exact inv j (by omega) q2 q3⟩
end Go.Proofs.K
end
section
set_option linter.unusedSimpArgs false
set_option linter.unusedVariables false
namespace Go.Proofs.K
open Go Go.Sim Go.Proofs
variable {G : Glob}
theorem lvc_env {b : (SExit → Env → Heap → Prop) → Env → Heap → Prop} {Q : SExit → Env → Heap → Prop} {e : Env} {h : Heap} (H : LoopVC b Q e h) : LoopVC b Q e h := H
set_option maxHeartbeats 4000000 in
theorem ref_loop {h0 h : Heap} {r2 r4 : Nat} (h2n : h0 r2 = none) (T : Option HDoc) {m : Nat} {e : Env} (hI : RefI h0 r2 r4 T m e h) :
    vc (Pg G) c12_s5 (retK [.cell 2 2 true, .tmp 3] (RefK h0 (okS T).1 (okS T).2)) e h := by
  skip
  simp -dsimp -implicitDefEqProofs (disch := omega) only [↓vcOps_sp 18, ↓vcD_sp 18, ↓vcOps_sp 28, ↓vcD_sp 28, ↓vcOps_sp 56, ↓vcD_sp 56, ↓vcOps_sp 73, ↓vcD_sp 73, ↓vcOps_sp 76, ↓vcD_sp 76, ↓vcOps_sp 80, ↓vcD_sp 80, ↓vcOps_sp 93, ↓vcD_sp 93, ↓vcOps_sp 106, ↓vcD_sp 106, VCA, pg_gl, ↓upd_none, Nat.reduceEqDiff, Nat.reduceBEq, Nat.reduceAdd, Nat.reduceSub, Nat.reduceMul, Nat.reduceLT, Nat.reduceLeDiff, ↓reduceIte, reduceCtorEq, rsOf, rootsOf, SOp.rd, SI.rd, SX.rd, rdL, rdO, rdP, okParts, eqCells, okEqCells, fillA, okFill, setAt, implies_true, forall_const, forall_eq, ne_eq, exists_eq_right_right, exists_eq_right, exists_eq_left, exists_eq_left', rootL, eAttr, eInt, eBool, lit_eq, c12_s5]
  refine LoopVC.intro (RefI h0 r2 r4 T) m hI ?_
  rintro m e h ⟨d, sl', rN, path, deep, pa, rest, f, rfl, hf, hr6, hT, hP, P, hdl, hpb, hp0, S, hls, e0, e2, e3, e4, e5, B⟩
  obtain ⟨f, rfl⟩ : ∃ g, f = g + 1 := ⟨f - 1, by omega⟩
  have g2 := B.r2v
  have g4 := B.doc
  have gN := B.dw.nodes
  have dl := S.2.1
  have S0 : Sim.Sub h0 h := fun t o ht => B.dw.sub t o (by rw [upd_ne _ _ (fun q => by rw [q, h2n] at ht; cases ht)]; exact ht)
  unfold strF at hT
  by_cases hr : rest = []
  · rw [if_pos hr] at hT
    subst hT
    have b1 : (rest != []) = false := by rw [hr]; rfl
    repeat' (first | ((with_reducible refine brC (fun _ => ?_) fun _ => ?_) <;> try (exfalso; omega)) | (with_reducible refine And.intro ?_ ?_; · omega) | simp -dsimp -implicitDefEqProofs (disch := omega) only [↓vcOps_sp 18, ↓vcD_sp 18, ↓vcOps_sp 28, ↓vcD_sp 28, ↓vcOps_sp 56, ↓vcD_sp 56, ↓vcOps_sp 73, ↓vcD_sp 73, ↓vcOps_sp 76, ↓vcD_sp 76, ↓vcOps_sp 80, ↓vcD_sp 80, ↓vcOps_sp 93, ↓vcD_sp 93, ↓vcOps_sp 106, ↓vcD_sp 106, VCA, pg_gl, ↓upd_none, Nat.reduceEqDiff, Nat.reduceBEq, Nat.reduceAdd, Nat.reduceSub, Nat.reduceMul, Nat.reduceLT, Nat.reduceLeDiff, ↓reduceIte, reduceCtorEq, rsOf, rootsOf, SOp.rd, SI.rd, SX.rd, rdL, rdO, rdP, okParts, eqCells, okEqCells, fillA, okFill, setAt, implies_true, forall_const, forall_eq, ne_eq, exists_eq_right_right, exists_eq_right, exists_eq_left, exists_eq_left', rootL, eAttr, eInt, eBool, lit_eq, e0, e2, e3, e4, e5, b1])
    exact ref_end (G := G) h2n B S (by simp [upd, e2]) (by simp [upd, e4])
  · rw [if_neg hr] at hT
    have b1 : (rest != []) = true := by simpa using hr
    obtain ⟨more, hmore, hml⟩ := cut_ends hr (hls.resolve_left hr)
    obtain ⟨one, hone⟩ : ∃ one, (cutB 10 rest).1 = one := ⟨_, rfl⟩
    have hrest := (cutB_is (b := 10) rest).2
    rw [hone, hmore] at hT hrest
    simp only at hrest
    have hlen := congrArg List.length hrest
    rw [List.length_append, List.length_cons] at hlen
    have htk : rest.take one.length = one := by rw [← hone]; exact cut_take 10 rest
    have hdp : rest.drop (one.length + 1) = more := by
      conv => lhs; rw [hrest]
      rw [show one ++ 10 :: more = (one ++ [10]) ++ more by simp, List.drop_append_of_le_length (by simp), List.drop_of_length_le (by simp)]; rfl
    repeat' (first | ((with_reducible refine brC (fun _ => ?_) fun _ => ?_) <;> try (exfalso; omega)) | (with_reducible refine And.intro ?_ ?_; · omega) | simp -dsimp -implicitDefEqProofs (disch := omega) only [↓vcOps_sp 18, ↓vcD_sp 18, ↓vcOps_sp 28, ↓vcD_sp 28, ↓vcOps_sp 56, ↓vcD_sp 56, ↓vcOps_sp 73, ↓vcD_sp 73, ↓vcOps_sp 76, ↓vcD_sp 76, ↓vcOps_sp 80, ↓vcD_sp 80, ↓vcOps_sp 93, ↓vcD_sp 93, ↓vcOps_sp 106, ↓vcD_sp 106, VCA, pg_gl, ↓upd_none, Nat.reduceEqDiff, Nat.reduceBEq, Nat.reduceAdd, Nat.reduceSub, Nat.reduceMul, Nat.reduceLT, Nat.reduceLeDiff, ↓reduceIte, reduceCtorEq, rsOf, rootsOf, SOp.rd, SI.rd, SX.rd, rdL, rdO, rdP, okParts, eqCells, okEqCells, fillA, okFill, setAt, implies_true, forall_const, forall_eq, ne_eq, exists_eq_right_right, exists_eq_right, exists_eq_left, exists_eq_left', rootL, eAttr, eInt, eBool, lit_eq, e0, e2, e3, e4, e5, b1])
    refine LoopVC.intro (fun m e h' => ∃ j, m = rest.length - j ∧ j < rest.length ∧ e 0 = .str rest ∧ e 2 = .vp r2 0 ∧ e 3 = .bool false ∧ e 4 = .vp r4 0 ∧ e 5 = pa ∧ e 6 = aInt j ∧ h' = h ∧ one.length = j + (cutB 10 (rest.drop j)).1.length ∧ (cutB 10 (rest.drop j)).2 = some more) rest.length
      ⟨0, by omega, List.length_pos_iff.2 hr, by simp [upd, e0], by simp [upd, e2], by simp [upd, e3], by simp [upd, e4], by simp [upd, e5], by simp [upd], rfl, by rw [List.drop_zero, hone]; omega, by rw [List.drop_zero]; exact hmore⟩ ?_
    clear e0 e2 e3 e4 e5
    rintro m e h' ⟨j, rfl, hj, e0, e2, e3, e4, e5, e6, rfl, hL, hR⟩
    obtain ⟨c, hc⟩ : ∃ c, rest.getD j 0 = c := ⟨_, rfl⟩
    by_cases c10 : c = 10
    · have b10 : ((c.toNat : Int) != 10) = false := by rw [c10]; rfl
      rw [cut_here hj (by rw [hc, c10])] at hL
      simp only [List.length_nil] at hL
      obtain rfl : j = one.length := by omega
      have t1 : ((one.length : Int)).toNat = one.length := by omega
      have t2 : ((one.length : Int) + 1).toNat = one.length + 1 := by omega
      repeat' (first | ((with_reducible refine brC (fun _ => ?_) fun _ => ?_) <;> try (exfalso; omega)) | (with_reducible refine And.intro ?_ ?_; · omega) | simp -dsimp -implicitDefEqProofs (disch := omega) only [↓vcOps_sp 18, ↓vcD_sp 18, ↓vcOps_sp 28, ↓vcD_sp 28, ↓vcOps_sp 56, ↓vcD_sp 56, ↓vcOps_sp 73, ↓vcD_sp 73, ↓vcOps_sp 76, ↓vcD_sp 76, ↓vcOps_sp 80, ↓vcD_sp 80, ↓vcOps_sp 93, ↓vcD_sp 93, ↓vcOps_sp 106, ↓vcD_sp 106, VCA, pg_gl, ↓upd_none, Nat.reduceEqDiff, Nat.reduceBEq, Nat.reduceAdd, Nat.reduceSub, Nat.reduceMul, Nat.reduceLT, Nat.reduceLeDiff, ↓reduceIte, reduceCtorEq, rsOf, rootsOf, SOp.rd, SI.rd, SX.rd, rdL, rdO, rdP, okParts, eqCells, okEqCells, fillA, okFill, setAt, implies_true, forall_const, forall_eq, ne_eq, exists_eq_right_right, exists_eq_right, exists_eq_left, exists_eq_left', rootL, eAttr, eInt, eBool, lit_eq, e0, e2, e3, e4, e5, e6, hc, b10, t1, t2, htk, hdp])
      all_goals try (exfalso; omega)
      refine LoopVC.intro (fun m e h'' => ∃ k, m = one.length - k ∧ k ≤ one.length ∧ e 0 = .str more ∧ e 2 = .vp r2 0 ∧ e 3 = .bool false ∧ e 4 = .vp r4 0 ∧ e 5 = pa ∧ e 7 = .str one ∧ e 8 = aInt k ∧ h'' = h' ∧ innerOf (one.drop k) = innerOf one) one.length
        ⟨0, by omega, by omega, by simp [upd], by simp [upd, e2], by simp [upd, e3], by simp [upd, e4], by simp [upd, e5], by simp [upd], by simp [upd], rfl, by rw [List.drop_zero]⟩ ?_
      clear e0 e2 e3 e4 e5 e6
      rintro m e h'' ⟨k, rfl, hk, e0, e2, e3, e4, e5, e7, e8, rfl, hin⟩
      by_cases hgo : k < one.length ∧ one.getD k 0 = 32
      · obtain ⟨d8, hd8⟩ : ∃ d, one.getD k 0 = d := ⟨_, rfl⟩
        obtain ⟨hk1, hk2⟩ := hgo
        rw [hd8] at hk2
        have b32 : ((d8.toNat : Int) == 32) = true := by rw [hk2]; rfl
        have hin2 : innerOf (one.drop (k + 1)) = innerOf one := by
          rw [← hin, drop_at hk1, hd8, hk2]
          unfold innerOf
          rw [List.dropWhile_cons_of_pos (by simp)]
        repeat' (first | ((with_reducible refine brC (fun _ => ?_) fun _ => ?_) <;> try (exfalso; omega)) | (with_reducible refine And.intro ?_ ?_; · omega) | simp -dsimp -implicitDefEqProofs (disch := omega) only [↓vcOps_sp 18, ↓vcD_sp 18, ↓vcOps_sp 28, ↓vcD_sp 28, ↓vcOps_sp 56, ↓vcD_sp 56, ↓vcOps_sp 73, ↓vcD_sp 73, ↓vcOps_sp 76, ↓vcD_sp 76, ↓vcOps_sp 80, ↓vcD_sp 80, ↓vcOps_sp 93, ↓vcD_sp 93, ↓vcOps_sp 106, ↓vcD_sp 106, VCA, pg_gl, ↓upd_none, Nat.reduceEqDiff, Nat.reduceBEq, Nat.reduceAdd, Nat.reduceSub, Nat.reduceMul, Nat.reduceLT, Nat.reduceLeDiff, ↓reduceIte, reduceCtorEq, rsOf, rootsOf, SOp.rd, SI.rd, SX.rd, rdL, rdO, rdP, okParts, eqCells, okEqCells, fillA, okFill, setAt, implies_true, forall_const, forall_eq, ne_eq, exists_eq_right_right, exists_eq_right, exists_eq_left, exists_eq_left', rootL, eAttr, eInt, eBool, lit_eq, e0, e2, e3, e4, e5, e7, e8, hd8, b32])
        all_goals try (exfalso; omega)
        all_goals exact ⟨_, by omega, k + 1, rfl, by omega, by omega, hin2⟩
      have hino : one.drop k = innerOf one := by
        by_cases hk1 : k < one.length
        · have : one.getD k 0 ≠ 32 := fun q => hgo ⟨hk1, q⟩
          rw [← hin, drop_at hk1]
          unfold innerOf
          rw [List.dropWhile_cons_of_neg (by simpa using this)]
        · rw [← hin, List.drop_of_length_le (by omega)]; rfl
      have hdeep : deepOf one = k := by
        have := congrArg List.length hino
        rw [List.length_drop] at this
        unfold deepOf; omega
      obtain ⟨inner, hinner⟩ : ∃ inner, innerOf one = inner := ⟨_, rfl⟩
      rw [hinner] at hino hT
      rw [hdeep] at hT
      have hil : inner.length ≤ one.length := by rw [← hino, List.length_drop]; omega
      have cN := nodeOf_ok (G := G) inner (by omega)
      have nS := nodeH_S inner
      obtain ⟨X, hX⟩ : ∃ X, nodeH inner = X := ⟨_, rfl⟩
      obtain ⟨x, ok⟩ := X
      rw [hX] at cN nS
      simp only at cN nS
      have hNU : ok = true → x = nodeU inner := fun q => by
        rw [q, if_pos rfl] at nS
        exact (nodeS_in nS).1.symm
      rw [nS] at hT
      obtain ⟨d0, hd0⟩ : ∃ d, one.getD k 0 = d := ⟨_, rfl⟩
      have b32 : k < one.length → ((d0.toNat : Int) == 32) = false := fun hlt => by
        have : one.getD k 0 ≠ 32 := fun q => hgo ⟨hlt, q⟩
        rw [hd0] at this
        rw [beq_eq_false_iff_ne]; intro hh; exact this (bt_inj (by simpa using hh))
      have tk : ((k : Int)).toNat = k := by omega
      have ret : ∀ H, Sim.Sub h0 H → T = none → ∃ h', Sim.Sub h' (upd H r2 (some ⟨.t 29, 2, [[.emp, .bool false]]⟩)) ∧ RefK h0 (okS T).1 (okS T).2 (.tup [.agg [.emp, .bool false], .bool false]) h' := fun H hH hn => by
        rw [hn]
        exact ⟨_, Sub.refl _, hH.upd h2n, vw_emptyB _⟩
      have hbad : ok = false ∨ path.length ≤ k ∨ 200 < d.nodes.length → T = none := fun q => by
        rw [← hT]
        rcases q with q | q
        · rw [if_pos (.inr (.inl (by rw [q]; rfl)))]
        · rw [if_pos (.inr (.inr q))]
      have pl := B.pt.len
      rw [List.length_map] at pl
      have Plen := P.len
      have bL : aLen (.osl rN 6 0 d.nodes.length) = aInt d.nodes.length := rfl
      unfold rowE rowA at cN
      have hget : ∀ {rP : Nat} {es : List (List AVal)}, es.take deep.length = deep.map eInt → ∀ i, i < deep.length → es.getD i [] = [aInt (nth deep i)] := fun {rP es} hes i hi => by
        have : (es.take deep.length)[i]? = (deep.map eInt)[i]? := by rw [hes]
        rw [List.getElem?_take, if_pos hi, List.getElem?_map, nth_some hi] at this
        rw [List.getD_eq_getElem?_getD, this]; rfl
      cases ok with
      | false =>
        have hn := hbad (.inl rfl)
        by_cases hlt0 : k < one.length
        all_goals try (have b32 := b32 hlt0)
        all_goals (repeat' (first | ((with_reducible refine brC (fun _ => ?_) fun _ => ?_) <;> try (exfalso; omega)) | (with_reducible apply pcallE.of; · exact cN) | (with_reducible refine And.intro ?_ ?_; · omega) | simp -dsimp -implicitDefEqProofs (disch := omega) only [↓vcOps_sp 18, ↓vcD_sp 18, ↓vcOps_sp 28, ↓vcD_sp 28, ↓vcOps_sp 56, ↓vcD_sp 56, ↓vcOps_sp 73, ↓vcD_sp 73, ↓vcOps_sp 76, ↓vcD_sp 76, ↓vcOps_sp 80, ↓vcD_sp 80, ↓vcOps_sp 93, ↓vcD_sp 93, ↓vcOps_sp 106, ↓vcD_sp 106, VCA, pg_gl, ↓upd_none, Nat.reduceEqDiff, Nat.reduceBEq, Nat.reduceAdd, Nat.reduceSub, Nat.reduceMul, Nat.reduceLT, Nat.reduceLeDiff, ↓reduceIte, reduceCtorEq, rsOf, rootsOf, SOp.rd, SI.rd, SX.rd, rdL, rdO, rdP, okParts, eqCells, okEqCells, fillA, okFill, setAt, implies_true, forall_const, forall_eq, ne_eq, exists_eq_right_right, exists_eq_right, exists_eq_left, exists_eq_left', rootL, eAttr, eInt, eBool, lit_eq, e0, e2, e3, e4, e5, e7, e8, hd0, b32, tk, hino]))
        all_goals try (exfalso; omega)
        all_goals (
          intro r9 hr9
          have m2 : ¬ r2 = r9 := fun q => by rw [q, hr9] at g2; cases g2
          repeat' (first | ((with_reducible refine brC (fun _ => ?_) fun _ => ?_) <;> try (exfalso; omega)) | (with_reducible refine And.intro ?_ ?_; · omega) | simp -dsimp -implicitDefEqProofs (disch := omega) only [↓vcOps_sp 18, ↓vcD_sp 18, ↓vcOps_sp 28, ↓vcD_sp 28, ↓vcOps_sp 56, ↓vcD_sp 56, ↓vcOps_sp 73, ↓vcD_sp 73, ↓vcOps_sp 76, ↓vcD_sp 76, ↓vcOps_sp 80, ↓vcD_sp 80, ↓vcOps_sp 93, ↓vcD_sp 93, ↓vcOps_sp 106, ↓vcD_sp 106, VCA, pg_gl, ↓upd_none, Nat.reduceEqDiff, Nat.reduceBEq, Nat.reduceAdd, Nat.reduceSub, Nat.reduceMul, Nat.reduceLT, Nat.reduceLeDiff, ↓reduceIte, reduceCtorEq, rsOf, rootsOf, SOp.rd, SI.rd, SX.rd, rdL, rdO, rdP, okParts, eqCells, okEqCells, fillA, okFill, setAt, implies_true, forall_const, forall_eq, ne_eq, exists_eq_right_right, exists_eq_right, exists_eq_left, exists_eq_left', rootL, eAttr, eInt, eBool, lit_eq, e0, e2, e3, e4, e5, e7, e8, g2, m2, upd_same]))
        all_goals exact ret _ (S0.upd (S0.none hr9)) hn
      | true =>
        rw [if_pos rfl, Option.getD_some, Option.getD_some] at hT
        obtain rfl : x = nodeU inner := hNU rfl
        have fork : (deep = [] ∧ deep.length = 0 ∧ path.length = 1 ∧ aLen pa = aInt 0) ∨ (0 < deep.length ∧ (path.length : Int) = nth deep (deep.length - 1) + 2 ∧ ∃ rP es, pa = .osl rP 1 0 deep.length ∧ h'' rP = some ⟨.t 3, 1, es⟩ ∧ deep.length ≤ es.length ∧ es.take deep.length = deep.map eInt) := by
          by_cases hde : deep = []
          · left
            subst hde
            refine ⟨rfl, rfl, ?_, pl.1⟩
            simp [lastN] at Plen; omega
          · right
            refine ⟨List.length_pos_iff.2 hde, by rw [Plen]; unfold lastN; rw [if_neg hde], ?_⟩
            rcases B.pt.live B.pm with ⟨q, _⟩ | ⟨rP, es, hpa, gP, hle, hes⟩
            · exact absurd (List.map_eq_nil_iff.1 q) hde
            · rw [List.length_map] at hpa hle hes
              exact ⟨rP, es, hpa, gP, hle, hes⟩
        have pl2 := pl.2
        by_cases hbd : path.length ≤ k ∨ 200 < d.nodes.length
        · have hn := hbad (.inr hbd)
          by_cases hlt0 : k < one.length
          all_goals try (have b32 := b32 hlt0)
          all_goals (repeat' (first | ((with_reducible refine brC (fun _ => ?_) fun _ => ?_) <;> try (exfalso; omega)) | (with_reducible apply pcallE.of; · exact cN) | (with_reducible refine And.intro ?_ ?_; · omega) | simp -dsimp -implicitDefEqProofs (disch := omega) only [↓vcOps_sp 18, ↓vcD_sp 18, ↓vcOps_sp 28, ↓vcD_sp 28, ↓vcOps_sp 56, ↓vcD_sp 56, ↓vcOps_sp 73, ↓vcD_sp 73, ↓vcOps_sp 76, ↓vcD_sp 76, ↓vcOps_sp 80, ↓vcD_sp 80, ↓vcOps_sp 93, ↓vcD_sp 93, ↓vcOps_sp 106, ↓vcD_sp 106, VCA, pg_gl, ↓upd_none, Nat.reduceEqDiff, Nat.reduceBEq, Nat.reduceAdd, Nat.reduceSub, Nat.reduceMul, Nat.reduceLT, Nat.reduceLeDiff, ↓reduceIte, reduceCtorEq, rsOf, rootsOf, SOp.rd, SI.rd, SX.rd, rdL, rdO, rdP, okParts, eqCells, okEqCells, fillA, okFill, setAt, implies_true, forall_const, forall_eq, ne_eq, exists_eq_right_right, exists_eq_right, exists_eq_left, exists_eq_left', rootL, eAttr, eInt, eBool, lit_eq, e0, e2, e3, e4, e5, e7, e8, hd0, b32, tk, hino]))
          all_goals try (exfalso; omega)
          all_goals (
            intro r9 hr9
            have m2 : ¬ r2 = r9 := fun q => by rw [q, hr9] at g2; cases g2
            have m4 : ¬ r4 = r9 := fun q => by rw [q, hr9] at g4; cases g4
            rcases fork with ⟨hde, q0, q1, q2⟩ | ⟨q0, q1, rP, es, hpa, gP, hle, hes⟩)
          all_goals first
            | (subst hde
               repeat' (first | ((with_reducible refine brC (fun _ => ?_) fun _ => ?_) <;> try (exfalso; omega)) | (with_reducible refine And.intro ?_ ?_; · omega) | simp -dsimp -implicitDefEqProofs (disch := omega) only [↓vcOps_sp 18, ↓vcD_sp 18, ↓vcOps_sp 28, ↓vcD_sp 28, ↓vcOps_sp 56, ↓vcD_sp 56, ↓vcOps_sp 73, ↓vcD_sp 73, ↓vcOps_sp 76, ↓vcD_sp 76, ↓vcOps_sp 80, ↓vcD_sp 80, ↓vcOps_sp 93, ↓vcD_sp 93, ↓vcOps_sp 106, ↓vcD_sp 106, VCA, pg_gl, ↓upd_none, Nat.reduceEqDiff, Nat.reduceBEq, Nat.reduceAdd, Nat.reduceSub, Nat.reduceMul, Nat.reduceLT, Nat.reduceLeDiff, ↓reduceIte, reduceCtorEq, rsOf, rootsOf, SOp.rd, SI.rd, SX.rd, rdL, rdO, rdP, okParts, eqCells, okEqCells, fillA, okFill, setAt, implies_true, forall_const, forall_eq, ne_eq, exists_eq_right_right, exists_eq_right, exists_eq_left, exists_eq_left', rootL, eAttr, eInt, eBool, lit_eq, e0, e2, e3, e4, e5, e7, e8, g2, g4, m2, m4, upd_same, q2, pl2, bL])
               all_goals first | exact ret _ (S0.upd (S0.none hr9)) hn | (exfalso; omega))
            | (have mP : ¬ rP = r9 := fun q => by rw [q, hr9] at gP; cases gP
               have hg := hget (rP := rP) hes (deep.length - 1) (by omega)
               have td1 : ((deep.length : Int) - 1).toNat = deep.length - 1 := by omega
               repeat' (first | ((with_reducible refine brC (fun _ => ?_) fun _ => ?_) <;> try (exfalso; omega)) | (with_reducible refine And.intro ?_ ?_; · omega) | simp -dsimp -implicitDefEqProofs (disch := omega) only [↓vcOps_sp 18, ↓vcD_sp 18, ↓vcOps_sp 28, ↓vcD_sp 28, ↓vcOps_sp 56, ↓vcD_sp 56, ↓vcOps_sp 73, ↓vcD_sp 73, ↓vcOps_sp 76, ↓vcD_sp 76, ↓vcOps_sp 80, ↓vcD_sp 80, ↓vcOps_sp 93, ↓vcD_sp 93, ↓vcOps_sp 106, ↓vcD_sp 106, VCA, pg_gl, ↓upd_none, Nat.reduceEqDiff, Nat.reduceBEq, Nat.reduceAdd, Nat.reduceSub, Nat.reduceMul, Nat.reduceLT, Nat.reduceLeDiff, ↓reduceIte, reduceCtorEq, rsOf, rootsOf, SOp.rd, SI.rd, SX.rd, rdL, rdO, rdP, okParts, eqCells, okEqCells, fillA, okFill, setAt, implies_true, forall_const, forall_eq, ne_eq, exists_eq_right_right, exists_eq_right, exists_eq_left, exists_eq_left', rootL, eAttr, eInt, eBool, lit_eq, e0, e2, e3, e4, e5, e7, e8, g2, g4, gP, m2, m4, mP, upd_same, hpa, hg, td1, bL])
               all_goals first | exact ret _ (S0.upd (S0.none hr9)) hn | (exfalso; omega) | trace_state)
        · rw [if_neg (fun q => by rcases q with q | q | q; (cases q); (cases q); exact hbd q)] at hT
          have hkp : k < path.length := by omega
          have hdn : d.nodes.length ≤ 200 := by omega
          by_cases hlt0 : k < one.length
          all_goals try (have b32 := b32 hlt0)
          all_goals (repeat' (first | ((with_reducible refine brC (fun _ => ?_) fun _ => ?_) <;> try (exfalso; omega)) | (with_reducible apply pcallE.of; · exact cN) | (with_reducible refine And.intro ?_ ?_; · omega) | simp -dsimp -implicitDefEqProofs (disch := omega) only [↓vcOps_sp 18, ↓vcD_sp 18, ↓vcOps_sp 28, ↓vcD_sp 28, ↓vcOps_sp 56, ↓vcD_sp 56, ↓vcOps_sp 73, ↓vcD_sp 73, ↓vcOps_sp 76, ↓vcD_sp 76, ↓vcOps_sp 80, ↓vcD_sp 80, ↓vcOps_sp 93, ↓vcD_sp 93, ↓vcOps_sp 106, ↓vcD_sp 106, VCA, pg_gl, ↓upd_none, Nat.reduceEqDiff, Nat.reduceBEq, Nat.reduceAdd, Nat.reduceSub, Nat.reduceMul, Nat.reduceLT, Nat.reduceLeDiff, ↓reduceIte, reduceCtorEq, rsOf, rootsOf, SOp.rd, SI.rd, SX.rd, rdL, rdO, rdP, okParts, eqCells, okEqCells, fillA, okFill, setAt, implies_true, forall_const, forall_eq, ne_eq, exists_eq_right_right, exists_eq_right, exists_eq_left, exists_eq_left', rootL, eAttr, eInt, eBool, lit_eq, e0, e2, e3, e4, e5, e7, e8, hd0, b32, tk, hino]))
          all_goals try (exfalso; omega)
          all_goals (
            intro r9 hr9
            have m2 : ¬ r2 = r9 := fun q => by rw [q, hr9] at g2; cases g2
            have m4 : ¬ r4 = r9 := fun q => by rw [q, hr9] at g4; cases g4
            rcases fork with ⟨hde, q0, q1, q2⟩ | ⟨q0, q1, rP, es, hpa, gP, hle, hes⟩)
          all_goals first
            | (have hde2 := hde
               repeat' (first | ((with_reducible refine brC (fun _ => ?_) fun _ => ?_) <;> try (exfalso; omega)) | (with_reducible refine And.intro ?_ ?_; · omega) | simp -dsimp -implicitDefEqProofs (disch := omega) only [↓vcOps_sp 18, ↓vcD_sp 18, ↓vcOps_sp 28, ↓vcD_sp 28, ↓vcOps_sp 56, ↓vcD_sp 56, ↓vcOps_sp 73, ↓vcD_sp 73, ↓vcOps_sp 76, ↓vcD_sp 76, ↓vcOps_sp 80, ↓vcD_sp 80, ↓vcOps_sp 93, ↓vcD_sp 93, ↓vcOps_sp 106, ↓vcD_sp 106, VCA, pg_gl, ↓upd_none, Nat.reduceEqDiff, Nat.reduceBEq, Nat.reduceAdd, Nat.reduceSub, Nat.reduceMul, Nat.reduceLT, Nat.reduceLeDiff, ↓reduceIte, reduceCtorEq, rsOf, rootsOf, SOp.rd, SI.rd, SX.rd, rdL, rdO, rdP, okParts, eqCells, okEqCells, fillA, okFill, setAt, implies_true, forall_const, forall_eq, ne_eq, exists_eq_right_right, exists_eq_right, exists_eq_left, exists_eq_left', rootL, eAttr, eInt, eBool, lit_eq, e0, e2, e3, e4, e5, e7, e8, g2, g4, m2, m4, upd_same, q2, pl2, bL])
               all_goals try (exfalso; omega))
            | (have mP : ¬ rP = r9 := fun q => by rw [q, hr9] at gP; cases gP
               have hg := hget (rP := rP) hes (deep.length - 1) (by omega)
               have td1 : ((deep.length : Int) - 1).toNat = deep.length - 1 := by omega
               repeat' (first | ((with_reducible refine brC (fun _ => ?_) fun _ => ?_) <;> try (exfalso; omega)) | (with_reducible refine And.intro ?_ ?_; · omega) | simp -dsimp -implicitDefEqProofs (disch := omega) only [↓vcOps_sp 18, ↓vcD_sp 18, ↓vcOps_sp 28, ↓vcD_sp 28, ↓vcOps_sp 56, ↓vcD_sp 56, ↓vcOps_sp 73, ↓vcD_sp 73, ↓vcOps_sp 76, ↓vcD_sp 76, ↓vcOps_sp 80, ↓vcD_sp 80, ↓vcOps_sp 93, ↓vcD_sp 93, ↓vcOps_sp 106, ↓vcD_sp 106, VCA, pg_gl, ↓upd_none, Nat.reduceEqDiff, Nat.reduceBEq, Nat.reduceAdd, Nat.reduceSub, Nat.reduceMul, Nat.reduceLT, Nat.reduceLeDiff, ↓reduceIte, reduceCtorEq, rsOf, rootsOf, SOp.rd, SI.rd, SX.rd, rdL, rdO, rdP, okParts, eqCells, okEqCells, fillA, okFill, setAt, implies_true, forall_const, forall_eq, ne_eq, exists_eq_right_right, exists_eq_right, exists_eq_left, exists_eq_left', rootL, eAttr, eInt, eBool, lit_eq, e0, e2, e3, e4, e5, e7, e8, g2, g4, gP, m2, m4, mP, upd_same, hpa, hg, td1, bL])
               all_goals try (exfalso; omega))
          all_goals refine lvc_env (?_ : LoopVC (vc (Pg G) parC) (blockK 6 (thenK (vc (Pg G) restC _) _)) _ _)
          all_goals exact ref_par (x := nodeU inner) (more := more) (nodeU_kids inner) P hP hkp S hdl hdn (by omega) B hr9
                          (fun e' h' sl2 rN' pa' c0 c2 c3 c4 c5 BB => ⟨more.length, by omega, addKid d (nth path k) (nodeU inner), sl2, rN', path.take (k + 1) ++ [(d.nodes.length : Int)], deep ++ [(k : Int)], pa', more, f, rfl, by omega, by omega, hT, by rw [addKid_len]; exact path_next hP,
                            by rw [show ((d.nodes.length : Nat) : Int) = (deep.length : Int) + 1 by omega]; exact P.next hkp, by rw [addKid_len, List.length_append, List.length_singleton]; omega,
                            by rw [addKid_len, List.length_append, List.length_take, List.length_singleton]; omega, by simp, S.kid (by have := hP _ (nth_mem' (l := path) (k := k) hkp); omega) (nodeU_sm (by omega)) (nodeU_kids inner) hdn, hml, c0, c2, c3, c4, c5, BB⟩)
                          (by simp [upd, e0]) (by simp [upd, e2]) (by simp [upd, e3]) (by simp [upd, e4]) (by first | simp [upd, e5] | simp [upd, e5, hpa]) (by simp [upd, e8]) (by simp [upd]) (by first | (simp [upd]; done) | (simp [upd, q0]; done))
    · have b10 : ((c.toNat : Int) != 10) = true := by rw [bne_iff_ne]; intro hh; exact c10 (bt_inj (by simpa using hh))
      have st := cut_step (b := 10) hj hc c10
      have hj1 : j + 1 < rest.length := by
        apply Classical.byContradiction; intro q
        rw [st.2, cut_end (by omega)] at hR; cases hR
      repeat' (first | ((with_reducible refine brC (fun _ => ?_) fun _ => ?_) <;> try (exfalso; omega)) | (with_reducible refine And.intro ?_ ?_; · omega) | simp -dsimp -implicitDefEqProofs (disch := omega) only [↓vcOps_sp 18, ↓vcD_sp 18, ↓vcOps_sp 28, ↓vcD_sp 28, ↓vcOps_sp 56, ↓vcD_sp 56, ↓vcOps_sp 73, ↓vcD_sp 73, ↓vcOps_sp 76, ↓vcD_sp 76, ↓vcOps_sp 80, ↓vcD_sp 80, ↓vcOps_sp 93, ↓vcD_sp 93, ↓vcOps_sp 106, ↓vcD_sp 106, VCA, pg_gl, ↓upd_none, Nat.reduceEqDiff, Nat.reduceBEq, Nat.reduceAdd, Nat.reduceSub, Nat.reduceMul, Nat.reduceLT, Nat.reduceLeDiff, ↓reduceIte, reduceCtorEq, rsOf, rootsOf, SOp.rd, SI.rd, SX.rd, rdL, rdO, rdP, okParts, eqCells, okEqCells, fillA, okFill, setAt, implies_true, forall_const, forall_eq, ne_eq, exists_eq_right_right, exists_eq_right, exists_eq_left, exists_eq_left', rootL, eAttr, eInt, eBool, lit_eq, e0, e2, e3, e4, e5, e6, hc, b10])
      all_goals try (exfalso; omega)
      all_goals exact ⟨_, by omega, j + 1, rfl, by omega, by omega, by rw [hL, st.1]; omega, by rw [← st.2]; exact hR⟩
end Go.Proofs.K
end
section
set_option linter.unusedSimpArgs false
set_option linter.unusedVariables false
namespace Go.Proofs.K
open Go Go.Sim Go.Proofs
variable {G : Glob}
def backT (s : List UInt8) : Option HDoc := backF (s.length + 1) (rootD (quirkS s)) [0] (restS s)
theorem rootD_szb (q : Bool) : SzB (rootD q) := by
  refine ⟨by show 0 < 1; omega, by show 1 ≤ 201; omega, fun m hm => ?_⟩
  have : m = 0 := by simp [rootD] at hm; exact hm
  subst this
  exact ⟨⟨by simp [rootD, nth], by simp [rootD, nth], fun a ha => by simp [rootD, nth] at ha, by simp [rootD, nth], by simp [rootD, nth]⟩, by simp [rootD, nth]⟩
theorem back_ok (hG : MaxLenOK G) (s : List UInt8) (hs : s.length ≤ 1000000) : PCalls (Pg G) 11 [.str s] (.tup [.agg (eDoc (backS s (backT s)).1), aInt (backS s (backT s)).2]) := PCalls.outV fun h => by
  show DCalls _ _ _ h (BackK h (backS s (backT s)).1 (backS s (backT s)).2)
  have hH := hasPre_ok (G := G) s [126, 10] (by omega) (by decide)
  have hq : hasPre s [126, 10] = quirkS s := rfl
  rw [hq] at hH
  refine dcalls_of_vc Tryd.func11 hn11 hc11 (by rw [Tryd.ntmps11]; simp) (by rw [Tryd.ntmps11]; decide) ?_
  simp -dsimp -implicitDefEqProofs (disch := omega) only [↓vcOps_sp 26, ↓vcD_sp 26, ↓vcOps_sp 93, ↓vcD_sp 93, VCA, pg_gl, ↓upd_none, Nat.reduceEqDiff, Nat.reduceBEq, Nat.reduceAdd, Nat.reduceSub, Nat.reduceMul, Nat.reduceLT, Nat.reduceLeDiff, ↓reduceIte, reduceCtorEq, rsOf, rootsOf, SOp.rd, SI.rd, SX.rd, rdL, rdO, rdP, okParts, eqCells, okEqCells, fillA, okFill, setAt, implies_true, forall_const, forall_eq, ne_eq, exists_eq_right_right, exists_eq_right, exists_eq_left, exists_eq_left', rootL, eAttr, eInt, eBool, lit_eq, c11]
  intro r2 hr2
  refine DCalls.of (newOwn_ok (G := G) _) ?_
  rintro _ h1 ⟨rN, hrN, rfl, gN, S1⟩
  have g2 := S1 _ _ (upd_same _ r2 _)
  simp -dsimp -implicitDefEqProofs (disch := omega) only [↓vcOps_sp 26, ↓vcD_sp 26, ↓vcOps_sp 93, ↓vcD_sp 93, VCA, pg_gl, ↓upd_none, Nat.reduceEqDiff, Nat.reduceBEq, Nat.reduceAdd, Nat.reduceSub, Nat.reduceMul, Nat.reduceLT, Nat.reduceLeDiff, ↓reduceIte, reduceCtorEq, rsOf, rootsOf, SOp.rd, SI.rd, SX.rd, rdL, rdO, rdP, okParts, eqCells, okEqCells, fillA, okFill, setAt, implies_true, forall_const, forall_eq, ne_eq, exists_eq_right_right, exists_eq_right, exists_eq_left, exists_eq_left', rootL, eAttr, eInt, eBool, lit_eq, upd_same]
  intro r4 hr4
  have m2 : ¬ r4 = r2 := fun q => by rw [q, g2] at hr4; cases hr4
  have m2' : ¬ r2 = r4 := fun q => m2 q.symm
  have mN : ¬ r4 = rN := fun q => by rw [q, gN] at hr4; cases hr4
  have en : ∀ (r : Nat), ¬ r = r4 → h1 r = none → ∀ e : Env, e 0 = .str s → e 2 = .vp r2 0 → e 3 = aInt 0 → e 4 = .vp r4 0 → e 5 = .str (restS s) → e 6 = .osl r 1 0 1 →
      vc (Pg G) c11_s5 (retK [.cell 2 2 true, .tmp 3] (BackK h (backS s (backT s)).1 (backS s (backT s)).2)) e (upd (upd h1 r4 (some ⟨.t 29, 2, [[.osl rN 6 0 1, .bool (quirkS s)]]⟩)) r (some ⟨.t 3, 1, [[aInt 0]]⟩)) := by
    intro r hne hr e e0 e2 e3 e4 e5 e6
    have hl := rest_len s
    have r4n := S1.none hr4
    have rn := S1.none hr
    have rN' : ¬ r = rN := fun q => by rw [q, gN] at hr; cases hr
    have mN' : ¬ rN = r4 := fun q => mN q.symm
    refine back_loop (G := G) hG hr2 s (backT s) (m := (restS s).length) ⟨rootD (quirkS s), fun _ => .emp, rN, [0], .osl r 1 0 1, restS s, s.length + 1, rfl, by omega, by omega, rfl, root_path, by simp, by show 1 ≤ 1; omega, rootD_szb _, e0, e2, e3, e4, e5, e6, ?_⟩
    refine ⟨⟨?_, ?_, ⟨hrN, by simpa using fun q => mN q.symm⟩, fun i hi => ?_, (fun k hk t q => by cases q), (fun j k hj hk hjk t q => by cases q), fun t ht => ?_⟩, r4n, ?_, ?_, (fun es q => by cases q), (fun t ht => ?_), fun i hi es q => by cases q⟩
    · exact (S1.upd r4n).upd rn
    · rw [upd_ne _ _ (fun q => rN' q.symm), upd_ne _ _ mN', gN]; rfl
    · have : i = 0 := by simp [rootD] at hi; exact hi
      subst this
      exact ⟨.inl ⟨rfl, rfl⟩, .inl ⟨rfl, rfl⟩⟩
    · rw [List.mem_singleton] at ht
      subst ht
      exact ⟨_, by rw [upd_ne _ _ (fun q => hne q.symm), upd_same]⟩
    · rw [upd_ne _ _ (fun q => hne q.symm), upd_same]; rfl
    · exact .inr (.inr ⟨r, _, rfl, upd_same _ _ _, Nat.le_refl _, rfl⟩)
    · cases ht
      exact ⟨rn, hne, rN', fun k hk q => by cases q⟩
  repeat' (first | ((with_reducible refine brC (fun _ => ?_) fun _ => ?_) <;> try (exfalso; omega)) | (with_reducible apply pcallE.of; · exact hH) | (with_reducible refine And.intro ?_ ?_; · omega) | simp -dsimp -implicitDefEqProofs (disch := omega) only [↓vcOps_sp 26, ↓vcD_sp 26, ↓vcOps_sp 93, ↓vcD_sp 93, VCA, pg_gl, ↓upd_none, Nat.reduceEqDiff, Nat.reduceBEq, Nat.reduceAdd, Nat.reduceSub, Nat.reduceMul, Nat.reduceLT, Nat.reduceLeDiff, ↓reduceIte, reduceCtorEq, rsOf, rootsOf, SOp.rd, SI.rd, SX.rd, rdL, rdO, rdP, okParts, eqCells, okEqCells, fillA, okFill, setAt, implies_true, forall_const, forall_eq, ne_eq, exists_eq_right_right, exists_eq_right, exists_eq_left, exists_eq_left', rootL, eAttr, eInt, eBool, lit_eq, upd_same, m2, m2', mN])
  · rename_i hq1
    have hr : restS s = s.drop 2 := by unfold restS; rw [if_pos hq1]
    have h2 : 2 ≤ s.length := by rw [← hq, hasPre, Bool.and_eq_true] at hq1; exact of_decide_eq_true hq1.1
    refine ⟨⟨by omega, by omega, by omega⟩, ?_⟩
    rintro r ⟨k1, k2⟩
    exact en r k1 k2 _ rfl (by simp [upd]) (by simp [upd]) (by simp [upd]) (by simp [upd, hr]) (by simp [upd])
  · rename_i hq1
    have hr : restS s = s := by unfold restS; rw [if_neg (by rw [hq1]; simp)]
    rintro r ⟨k1, k2⟩
    exact en r k1 k2 _ rfl (by simp [upd]) (by simp [upd]) (by simp [upd]) (by simp [upd, hr]) (by simp [upd])
def strR : Option HDoc → HDoc × Int
  | none => (emptyD, 4)
  | some D => (D, 0)
theorem backS_str (s : List UInt8) : backS s (backT s) = strR (strV s) := by
  rw [← back_law]
  unfold backV backT
  generalize backF (s.length + 1) (rootD (quirkS s)) [0] (restS s) = X
  cases X with
  | none => rfl
  | some D =>
    show backR s D = strR (if docE D = 0 ∧ treeM D = s then some D else none)
    unfold backR
    by_cases h : docE D = 0 ∧ treeM D = s
    · rw [if_pos h, if_pos h]; rfl
    · rw [if_neg h, if_neg h]; rfl
theorem backS_ok (hG : MaxLenOK G) (s : List UInt8) (hs : s.length ≤ 1000000) : PCalls (Pg G) 11 [.str s] (.tup [.agg (eDoc (strR (strV s)).1), aInt (strR (strV s)).2]) := by
  rw [← backS_str]; exact back_ok hG s hs
end Go.Proofs.K
end
section
set_option linter.unusedSimpArgs false
set_option linter.unusedVariables false
namespace Go.Proofs.K
open Go Go.Sim Go.Proofs
variable {G : Glob}
theorem ref_last {h0 h : Heap} {r2 r4 rN : Nat} (h2n : h0 r2 = none) (rest : List UInt8) (hr6 : rest.length ≤ 1000000) (f : Nat) (hf : rest.length < f) (q : Bool) {e : Env} (e0 : e 0 = .str rest) (e2 : e 2 = .vp r2 0) (e3 : e 3 = .bool false) (e4 : e 4 = .vp r4 0)
    (B : Bk (upd h0 r2 (some ⟨.t 29, 2, [[.emp, .bool false]]⟩)) h r4 rN (rootD q) (fun _ => .emp) [] .emp) :
    vc (Pg G) c12_s3 (retK [.cell 2 2 true, .tmp 3] (RefK h0 (okS (strF f (rootD q) [0] rest)).1 (okS (strF f (rootD q) [0] rest)).2)) e h := by
  have g2 := B.r2v
  have S0 : Sim.Sub h0 h := fun t o ht => B.dw.sub t o (by rw [upd_ne _ _ (fun q => by rw [q, h2n] at ht; cases ht)]; exact ht)
  have lp : ∀ e' : Env, (rest = [] ∨ rest.getD (rest.length - 1) 0 = 10) → e' 0 = .str rest → e' 2 = .vp r2 0 → e' 3 = .bool false → e' 4 = .vp r4 0 → e' 5 = .emp →
      vc (Pg G) c12_s5 (retK [.cell 2 2 true, .tmp 3] (RefK h0 (okS (strF f (rootD q) [0] rest)).1 (okS (strF f (rootD q) [0] rest)).2)) e' h := fun e' hl c0 c2 c3 c4 c5 =>
    ref_loop (G := G) h2n _ (m := rest.length) ⟨rootD q, _, rN, [0], [], .emp, rest, f, rfl, hf, hr6, rfl, root_path, PD.nil, rfl, by simp [rootD], by simp, rootD_szb _, hl, c0, c2, c3, c4, c5, B⟩
  skip
  by_cases hr : rest = []
  · have b1 : (rest != []) = false := by rw [hr]; rfl
    simp -dsimp -implicitDefEqProofs (disch := omega) only [↓vcOps_sp 18, ↓vcD_sp 18, ↓vcOps_sp 28, ↓vcD_sp 28, ↓vcOps_sp 56, ↓vcD_sp 56, ↓vcOps_sp 73, ↓vcD_sp 73, ↓vcOps_sp 76, ↓vcD_sp 76, ↓vcOps_sp 80, ↓vcD_sp 80, ↓vcOps_sp 93, ↓vcD_sp 93, ↓vcOps_sp 106, ↓vcD_sp 106, VCA, pg_gl, ↓upd_none, Nat.reduceEqDiff, Nat.reduceBEq, Nat.reduceAdd, Nat.reduceSub, Nat.reduceMul, Nat.reduceLT, Nat.reduceLeDiff, ↓reduceIte, reduceCtorEq, rsOf, rootsOf, SOp.rd, SI.rd, SX.rd, rdL, rdO, rdP, okParts, eqCells, okEqCells, fillA, okFill, setAt, implies_true, forall_const, forall_eq, ne_eq, exists_eq_right_right, exists_eq_right, exists_eq_left, exists_eq_left', rootL, eAttr, eInt, eBool, lit_eq, c12_s3]
    repeat' (first | ((with_reducible refine brC (fun _ => ?_) fun _ => ?_) <;> try (exfalso; omega)) | (with_reducible refine And.intro ?_ ?_; · omega) | simp -dsimp -implicitDefEqProofs (disch := omega) only [↓vcOps_sp 18, ↓vcD_sp 18, ↓vcOps_sp 28, ↓vcD_sp 28, ↓vcOps_sp 56, ↓vcD_sp 56, ↓vcOps_sp 73, ↓vcD_sp 73, ↓vcOps_sp 76, ↓vcD_sp 76, ↓vcOps_sp 80, ↓vcD_sp 80, ↓vcOps_sp 93, ↓vcD_sp 93, ↓vcOps_sp 106, ↓vcD_sp 106, VCA, pg_gl, ↓upd_none, Nat.reduceEqDiff, Nat.reduceBEq, Nat.reduceAdd, Nat.reduceSub, Nat.reduceMul, Nat.reduceLT, Nat.reduceLeDiff, ↓reduceIte, reduceCtorEq, rsOf, rootsOf, SOp.rd, SI.rd, SX.rd, rdL, rdO, rdP, okParts, eqCells, okEqCells, fillA, okFill, setAt, implies_true, forall_const, forall_eq, ne_eq, exists_eq_right_right, exists_eq_right, exists_eq_left, exists_eq_left', rootL, eAttr, eInt, eBool, lit_eq, e0, e2, e3, e4, b1])
    exact lp _ (.inl hr) (by simp [upd, e0]) (by simp [upd, e2]) (by simp [upd, e3]) (by simp [upd, e4]) (by simp [upd])
  · have b1 : (rest != []) = true := by simpa using hr
    have hp := List.length_pos_iff.2 hr
    have tl : ((rest.length : Int) - 1).toNat = rest.length - 1 := by omega
    obtain ⟨c, hc⟩ : ∃ c, rest.getD (rest.length - 1) 0 = c := ⟨_, rfl⟩
    by_cases c10 : c = 10
    · have b10 : ((c.toNat : Int) != 10) = false := by rw [c10]; rfl
      simp -dsimp -implicitDefEqProofs (disch := omega) only [↓vcOps_sp 18, ↓vcD_sp 18, ↓vcOps_sp 28, ↓vcD_sp 28, ↓vcOps_sp 56, ↓vcD_sp 56, ↓vcOps_sp 73, ↓vcD_sp 73, ↓vcOps_sp 76, ↓vcD_sp 76, ↓vcOps_sp 80, ↓vcD_sp 80, ↓vcOps_sp 93, ↓vcD_sp 93, ↓vcOps_sp 106, ↓vcD_sp 106, VCA, pg_gl, ↓upd_none, Nat.reduceEqDiff, Nat.reduceBEq, Nat.reduceAdd, Nat.reduceSub, Nat.reduceMul, Nat.reduceLT, Nat.reduceLeDiff, ↓reduceIte, reduceCtorEq, rsOf, rootsOf, SOp.rd, SI.rd, SX.rd, rdL, rdO, rdP, okParts, eqCells, okEqCells, fillA, okFill, setAt, implies_true, forall_const, forall_eq, ne_eq, exists_eq_right_right, exists_eq_right, exists_eq_left, exists_eq_left', rootL, eAttr, eInt, eBool, lit_eq, c12_s3]
      repeat' (first | ((with_reducible refine brC (fun _ => ?_) fun _ => ?_) <;> try (exfalso; omega)) | (with_reducible refine And.intro ?_ ?_; · omega) | simp -dsimp -implicitDefEqProofs (disch := omega) only [↓vcOps_sp 18, ↓vcD_sp 18, ↓vcOps_sp 28, ↓vcD_sp 28, ↓vcOps_sp 56, ↓vcD_sp 56, ↓vcOps_sp 73, ↓vcD_sp 73, ↓vcOps_sp 76, ↓vcD_sp 76, ↓vcOps_sp 80, ↓vcD_sp 80, ↓vcOps_sp 93, ↓vcD_sp 93, ↓vcOps_sp 106, ↓vcD_sp 106, VCA, pg_gl, ↓upd_none, Nat.reduceEqDiff, Nat.reduceBEq, Nat.reduceAdd, Nat.reduceSub, Nat.reduceMul, Nat.reduceLT, Nat.reduceLeDiff, ↓reduceIte, reduceCtorEq, rsOf, rootsOf, SOp.rd, SI.rd, SX.rd, rdL, rdO, rdP, okParts, eqCells, okEqCells, fillA, okFill, setAt, implies_true, forall_const, forall_eq, ne_eq, exists_eq_right_right, exists_eq_right, exists_eq_left, exists_eq_left', rootL, eAttr, eInt, eBool, lit_eq, e0, e2, e3, e4, b1, tl, hc, b10])
      all_goals try (exfalso; omega)
      all_goals exact lp _ (.inr (by rw [hc, c10])) (by simp [upd, e0]) (by simp [upd, e2]) (by simp [upd, e3]) (by simp [upd, e4]) (by simp [upd])
    · have b10 : ((c.toNat : Int) != 10) = true := by rw [bne_iff_ne]; intro hh; exact c10 (bt_inj (by simpa using hh))
      have hn : strF f (rootD q) [0] rest = none := str_none f _ _ rest hf hr (by rw [hc]; exact c10)
      rw [hn]
      simp -dsimp -implicitDefEqProofs (disch := omega) only [↓vcOps_sp 18, ↓vcD_sp 18, ↓vcOps_sp 28, ↓vcD_sp 28, ↓vcOps_sp 56, ↓vcD_sp 56, ↓vcOps_sp 73, ↓vcD_sp 73, ↓vcOps_sp 76, ↓vcD_sp 76, ↓vcOps_sp 80, ↓vcD_sp 80, ↓vcOps_sp 93, ↓vcD_sp 93, ↓vcOps_sp 106, ↓vcD_sp 106, VCA, pg_gl, ↓upd_none, Nat.reduceEqDiff, Nat.reduceBEq, Nat.reduceAdd, Nat.reduceSub, Nat.reduceMul, Nat.reduceLT, Nat.reduceLeDiff, ↓reduceIte, reduceCtorEq, rsOf, rootsOf, SOp.rd, SI.rd, SX.rd, rdL, rdO, rdP, okParts, eqCells, okEqCells, fillA, okFill, setAt, implies_true, forall_const, forall_eq, ne_eq, exists_eq_right_right, exists_eq_right, exists_eq_left, exists_eq_left', rootL, eAttr, eInt, eBool, lit_eq, c12_s3]
      repeat' (first | ((with_reducible refine brC (fun _ => ?_) fun _ => ?_) <;> try (exfalso; omega)) | (with_reducible refine And.intro ?_ ?_; · omega) | simp -dsimp -implicitDefEqProofs (disch := omega) only [↓vcOps_sp 18, ↓vcD_sp 18, ↓vcOps_sp 28, ↓vcD_sp 28, ↓vcOps_sp 56, ↓vcD_sp 56, ↓vcOps_sp 73, ↓vcD_sp 73, ↓vcOps_sp 76, ↓vcD_sp 76, ↓vcOps_sp 80, ↓vcD_sp 80, ↓vcOps_sp 93, ↓vcD_sp 93, ↓vcOps_sp 106, ↓vcD_sp 106, VCA, pg_gl, ↓upd_none, Nat.reduceEqDiff, Nat.reduceBEq, Nat.reduceAdd, Nat.reduceSub, Nat.reduceMul, Nat.reduceLT, Nat.reduceLeDiff, ↓reduceIte, reduceCtorEq, rsOf, rootsOf, SOp.rd, SI.rd, SX.rd, rdL, rdO, rdP, okParts, eqCells, okEqCells, fillA, okFill, setAt, implies_true, forall_const, forall_eq, ne_eq, exists_eq_right_right, exists_eq_right, exists_eq_left, exists_eq_left', rootL, eAttr, eInt, eBool, lit_eq, e0, e2, e3, e4, b1, tl, hc, b10, g2, upd_same])
      all_goals try (exfalso; omega)
      all_goals exact ⟨_, Sub.refl _, S0.upd h2n, vw_emptyB _⟩
theorem serialBack_ok (s : List UInt8) (hs : s.length ≤ 1000000) : PCalls (Pg G) 12 [.str s] (.tup [.agg (eDoc (strR (strV s)).1), .bool (strV s).isSome]) := PCalls.outV fun h => by
  have key : ((strR (strV s)).1, (strV s).isSome) = okS (strF (s.length + 1) (rootD (quirkS s)) [0] (restS s)) := by
    unfold strV
    generalize strF (s.length + 1) (rootD (quirkS s)) [0] (restS s) = X
    cases X with
    | none => rfl
    | some D =>
      show ((strR (if docE D = 0 then some D else none)).1, (if docE D = 0 then some D else none).isSome) = okR D
      unfold okR
      by_cases hd : docE D = 0
      · rw [if_pos hd, if_pos hd]; rfl
      · rw [if_neg hd, if_neg hd]; rfl
  show DCalls _ _ _ h (RefK h ((strR (strV s)).1, (strV s).isSome).1 ((strR (strV s)).1, (strV s).isSome).2)
  rw [key]
  have hl := rest_len s
  refine dcalls_of_vc Tryd.func12 hn12 hc12 (by rw [Tryd.ntmps12]; simp) (by rw [Tryd.ntmps12]; decide) ?_
  simp -dsimp -implicitDefEqProofs (disch := omega) only [↓vcOps_sp 18, ↓vcD_sp 18, ↓vcOps_sp 28, ↓vcD_sp 28, ↓vcOps_sp 56, ↓vcD_sp 56, ↓vcOps_sp 73, ↓vcD_sp 73, ↓vcOps_sp 76, ↓vcD_sp 76, ↓vcOps_sp 80, ↓vcD_sp 80, ↓vcOps_sp 93, ↓vcD_sp 93, ↓vcOps_sp 106, ↓vcD_sp 106, VCA, pg_gl, ↓upd_none, Nat.reduceEqDiff, Nat.reduceBEq, Nat.reduceAdd, Nat.reduceSub, Nat.reduceMul, Nat.reduceLT, Nat.reduceLeDiff, ↓reduceIte, reduceCtorEq, rsOf, rootsOf, SOp.rd, SI.rd, SX.rd, rdL, rdO, rdP, okParts, eqCells, okEqCells, fillA, okFill, setAt, implies_true, forall_const, forall_eq, ne_eq, exists_eq_right_right, exists_eq_right, exists_eq_left, exists_eq_left', rootL, eAttr, eInt, eBool, lit_eq, c12]
  intro r2 hr2
  rintro rN ⟨mN2, hrN⟩ r4 ⟨m4N, m42, hr4⟩
  have m24 : ¬ r2 = r4 := fun q => m42 q.symm
  have m2N : ¬ r2 = rN := fun q => mN2 q.symm
  have mN4 : ¬ rN = r4 := fun q => m4N q.symm
  have zN : (upd h r2 (some ⟨.t 29, 2, [[.emp, .bool false]]⟩) : Heap) rN = none := by rw [upd_ne _ _ mN2]; exact hrN
  have z4 : (upd h r2 (some ⟨.t 29, 2, [[.emp, .bool false]]⟩) : Heap) r4 = none := by rw [upd_ne _ _ m42]; exact hr4
  have en : ∀ e : Env, e 0 = .str (restS s) → e 2 = .vp r2 0 → e 3 = .bool false → e 4 = .vp r4 0 →
      vc (Pg G) c12_s3 (retK [.cell 2 2 true, .tmp 3] (RefK h (okS (strF (s.length + 1) (rootD (quirkS s)) [0] (restS s))).1 (okS (strF (s.length + 1) (rootD (quirkS s)) [0] (restS s))).2)) e
        (upd (upd (upd h r2 (some ⟨.t 29, 2, [[.emp, .bool false]]⟩)) rN (some ⟨.t 53, 6, [[aInt 1, .str [], .emp, .str [], aInt (-1), .emp]]⟩)) r4 (some ⟨.t 29, 2, [[.osl rN 6 0 1, .bool (quirkS s)]]⟩)) := by
    intro e e0 e2 e3 e4
    refine ref_last (G := G) hr2 (restS s) (by omega) _ (by omega) _ e0 e2 e3 e4 (rN := rN) ?_
    refine ⟨⟨?_, ?_, ⟨zN, by simpa using fun q => m4N q.symm⟩, fun i hi => ?_, (fun k hk t q => by cases q), (fun j k hj hk hjk t q => by cases q), fun t ht => ?_⟩, z4, ?_, .inl ⟨rfl, rfl⟩, (fun es q => by cases q), (fun t ht => by cases ht), fun i hi es q => by cases q⟩
    · exact ((Sub.refl _).upd zN).upd z4
    · rw [upd_ne _ _ mN4, upd_same]; rfl
    · have : i = 0 := by simp [rootD] at hi; exact hi
      subst this
      exact ⟨.inl ⟨rfl, rfl⟩, .inl ⟨rfl, rfl⟩⟩
    · rw [List.mem_singleton] at ht
      subst ht
      exact ⟨_, upd_same _ _ _⟩
    · exact upd_same _ _ _
  by_cases hq : quirkS s = true
  · have hr : restS s = s.drop 2 := by unfold restS; rw [if_pos hq]
    obtain ⟨h2, h3⟩ : 2 ≤ s.length ∧ s.take 2 = [126, 10] := by
      unfold quirkS hasPre at hq
      rw [Bool.and_eq_true] at hq
      exact ⟨of_decide_eq_true hq.1, by simpa using hq.2⟩
    have b1 : (s.take 2 == [126, 10]) = true := by rw [h3]; rfl
    rw [hq] at en
    have t2 : Int.toNat 2 = 2 := rfl
    repeat' (first | ((with_reducible refine brC (fun _ => ?_) fun _ => ?_) <;> try (exfalso; omega)) | (with_reducible refine And.intro ?_ ?_; · omega) | simp -dsimp -implicitDefEqProofs (disch := omega) only [↓vcOps_sp 18, ↓vcD_sp 18, ↓vcOps_sp 28, ↓vcD_sp 28, ↓vcOps_sp 56, ↓vcD_sp 56, ↓vcOps_sp 73, ↓vcD_sp 73, ↓vcOps_sp 76, ↓vcD_sp 76, ↓vcOps_sp 80, ↓vcD_sp 80, ↓vcOps_sp 93, ↓vcD_sp 93, ↓vcOps_sp 106, ↓vcD_sp 106, VCA, pg_gl, ↓upd_none, Nat.reduceEqDiff, Nat.reduceBEq, Nat.reduceAdd, Nat.reduceSub, Nat.reduceMul, Nat.reduceLT, Nat.reduceLeDiff, ↓reduceIte, reduceCtorEq, rsOf, rootsOf, SOp.rd, SI.rd, SX.rd, rdL, rdO, rdP, okParts, eqCells, okEqCells, fillA, okFill, setAt, implies_true, forall_const, forall_eq, ne_eq, exists_eq_right_right, exists_eq_right, exists_eq_left, exists_eq_left', rootL, eAttr, eInt, eBool, lit_eq, upd_same, t2, b1, m24, m2N, mN4, m42, mN2, m4N])
    all_goals try (exfalso; omega)
    all_goals (rw [hq]; exact en _ (by rw [hr]; rfl) rfl rfl rfl)
  · have hq' : quirkS s = false := by simpa using hq
    have hr : restS s = s := by unfold restS; rw [if_neg hq]
    rw [hq', hr] at en
    have t2 : Int.toNat 2 = 2 := rfl
    have b1 : 2 ≤ s.length → (s.take 2 == [126, 10]) = false := fun h2 => by
      unfold quirkS hasPre at hq'
      rw [Bool.and_eq_false_iff] at hq'
      rcases hq' with q | q
      · exact absurd h2 (of_decide_eq_false q)
      · exact q
    by_cases h2 : 2 ≤ s.length
    all_goals try (have b1 := b1 h2)
    all_goals (repeat' (first | ((with_reducible refine brC (fun _ => ?_) fun _ => ?_) <;> try (exfalso; omega)) | (with_reducible refine And.intro ?_ ?_; · omega) | simp -dsimp -implicitDefEqProofs (disch := omega) only [↓vcOps_sp 18, ↓vcD_sp 18, ↓vcOps_sp 28, ↓vcD_sp 28, ↓vcOps_sp 56, ↓vcD_sp 56, ↓vcOps_sp 73, ↓vcD_sp 73, ↓vcOps_sp 76, ↓vcD_sp 76, ↓vcOps_sp 80, ↓vcD_sp 80, ↓vcOps_sp 93, ↓vcD_sp 93, ↓vcOps_sp 106, ↓vcD_sp 106, VCA, pg_gl, ↓upd_none, Nat.reduceEqDiff, Nat.reduceBEq, Nat.reduceAdd, Nat.reduceSub, Nat.reduceMul, Nat.reduceLT, Nat.reduceLeDiff, ↓reduceIte, reduceCtorEq, rsOf, rootsOf, SOp.rd, SI.rd, SX.rd, rdL, rdO, rdP, okParts, eqCells, okEqCells, fillA, okFill, setAt, implies_true, forall_const, forall_eq, ne_eq, exists_eq_right_right, exists_eq_right, exists_eq_left, exists_eq_left', rootL, eAttr, eInt, eBool, lit_eq, upd_same, t2, b1, m24, m2N, mN4, m42, mN2, m4N]))
    all_goals try (exfalso; omega)
    all_goals (rw [hq', hr]; exact en _ rfl rfl rfl rfl)
end Go.Proofs.K
end
section
set_option linter.unusedSimpArgs false
set_option linter.unusedVariables false
namespace Go.Proofs.K
open Go Go.Sim Go.Proofs
variable {G : Glob}
def onePD : HDoc := ⟨[⟨1, [], [], [], -1, [1]⟩, ⟨2, [112], [⟨[97], [34]⟩], [], 0, [2]⟩, ⟨3, [], [], [60, 10], 1, []⟩], false⟩
theorem onePD_sm : DocSm onePD := ⟨by decide, fun x hx => by
  simp [onePD] at hx
  rcases hx with rfl | rfl | rfl
  · exact ⟨by simp, by simp, fun a ha => by simp at ha, by simp, by simp⟩
  · exact ⟨by simp, by simp, fun a ha => by simp at ha; subst ha; simp, by simp, by simp⟩
  · exact ⟨by simp, by simp, fun a ha => by simp at ha, by simp, by simp⟩⟩
theorem onePD_is : docE onePD = 0 ∧ htmlV onePD 0 = ([60, 112, 32, 97, 61, 34, 38, 113, 117, 111, 116, 59, 34, 62, 38, 108, 116, 59, 10, 60, 47, 112, 62], 0) ∧ treeM onePD = [112, 32, 97, 61, 34, 92, 50, 50, 34, 10, 32, 34, 60, 92, 48, 97, 34, 10] ∧ strV [112, 32, 97, 61, 34, 92, 50, 50, 34, 10, 32, 34, 60, 92, 48, 97, 34, 10] = some onePD := by decide +kernel
theorem dcalls_res {P : PG} {f : Nat} {args : List AVal} {h : Heap} {K K' : AVal → Heap → Prop} (hd : DCalls P f args h K) (hk : ∀ a h', K a h' → ∃ b, Wk a b ∧ K' b h') : DCalls P f args h K' :=
  ⟨hd.1, fun g w vs H GR V => (hd.2 g w vs H GR V).mono fun e w' ⟨v', a, h', g', he, k0, H', Va, S⟩ => by
    obtain ⟨b, hb, k1⟩ := hk a h' k0
    exact ⟨v', b, h', g', he, k1, H', hb.rel Va, S⟩⟩
def c27 : SFun := ⟨.seq (.reg [⟨some 0, .new 29 2 [.emp, .bool false], none⟩]) (.seq (.reg [⟨some 1, .bldF 3 1 [.c (.int .i64 1)], none⟩, ⟨some 2, .bld [.int .i64 0, .str [], .emp, .str [], .int .i64 0, .emp] [(0, (1, (.c (.int .i64 1)))), (4, (1, (.c (.int .i64 (-1))))), (5, (1, (.t 1)))], none⟩, ⟨some 3, .bld [.str [], .str []] [(0, (1, (.c (.str [97])))), (1, (1, (.c (.str [34]))))], none⟩, ⟨some 4, .bldF 43 2 [.t 3], none⟩, ⟨some 5, .bldF 3 1 [.c (.int .i64 2)], none⟩, ⟨some 6, .bld [.int .i64 0, .str [], .emp, .str [], .int .i64 0, .emp] [(0, (1, (.c (.int .i64 2)))), (1, (1, (.c (.str [112])))), (2, (1, (.t 4))), (5, (1, (.t 5)))], none⟩, ⟨some 7, .bld [.int .i64 0, .str [], .emp, .str [], .int .i64 0, .emp] [(0, (1, (.c (.int .i64 3)))), (3, (1, (.c (.str [60, 10])))), (4, (1, (.c (.int .i64 1))))], none⟩, ⟨some 8, .bldF 53 6 [.t 2, .t 6, .t 7], none⟩, ⟨some 9, .bld [.emp, .bool false] [(0, (1, (.t 8)))], none⟩, ⟨none, .st 2 (.t 0) (.t 9), none⟩]) .ret), [.cell 0 2 true]⟩
theorem hc27 : toSF Tryd.prog {} Tryd.f27 = some c27 := by kernel_rfl
theorem hn27 : (Tryd.f27.name == "runtime.NumGoroutine") = false := by kernel_rfl
theorem oneP_ok : PCalls (Pg G) 27 [] (.agg (eDoc onePD)) := fun h => by
  refine dcalls_res (K := fun a h' => a = .agg [.slc [[.int .i64 1, .str [], .emp, .str [], .int .i64 (-1), .slc [[.int .i64 1]]], [.int .i64 2, .str [112], .slc [[.str [97], .str [34]]], .str [], .int .i64 0, .slc [[.int .i64 2]]], [.int .i64 3, .str [], .emp, .str [60, 10], .int .i64 1, .emp]], .bool false] ∧ h' = h) ?_ ?_
  · refine dcalls_of_vc Tryd.func27 hn27 hc27 (by rw [Tryd.ntmps27]; simp) (by rw [Tryd.ntmps27]; decide) ?_
    simp -dsimp -implicitDefEqProofs (disch := omega) only [VCA, pg_gl, ↓upd_none, Nat.reduceEqDiff, Nat.reduceBEq, Nat.reduceAdd, Nat.reduceSub, Nat.reduceMul, Nat.reduceLT, Nat.reduceLeDiff, ↓reduceIte, reduceCtorEq, rsOf, rootsOf, SOp.rd, SI.rd, SX.rd, rdL, rdO, rdP, okParts, eqCells, okEqCells, fillA, okFill, setAt, implies_true, forall_const, forall_eq, ne_eq, exists_eq_right_right, exists_eq_right, exists_eq_left, exists_eq_left', rootL, eAttr, eInt, eBool, lit_eq, c27]
    intro r hr
    exact (Sub.refl _).upd hr
  · rintro a h' ⟨rfl, rfl⟩
    exact ⟨_, Wk.agg' (.cons (Wk.slc' (.cons (.cons (.refl _) (.cons (.refl _) (.cons .emp (.cons (.refl _) (.cons (.refl _) (.cons (.refl _) .nil)))))) (.cons (.cons (.refl _) (.cons (.refl _) (.cons (.refl _) (.cons (.refl _) (.cons (.refl _) (.cons (.refl _) .nil)))))) (.cons (.cons (.refl _) (.cons (.refl _) (.cons .emp (.cons (.refl _) (.cons (.refl _) (.cons .emp .nil)))))) .nil)))) (.cons (.refl _) .nil)), rfl, rfl⟩
theorem docLen (d : HDoc) : (eDoc d).length = 2 := rfl
theorem docTake (d : HDoc) : (eDoc d).take 2 = eDoc d := rfl
theorem docDrop (d : HDoc) : (eDoc d).drop 2 = [] := rfl
theorem strF_szb : ∀ (f : Nat) (d : HDoc) (path : List Int) (rest : List UInt8) {D : HDoc}, strF f d path rest = some D → SzB d → PathIn path d.nodes.length → rest.length ≤ 1000000 → SzB D
  | 0, d, _, _, D, h, S, _, _ => by unfold strF at h; cases h; exact S
  | f + 1, d, path, rest, D, h, S, hP, hr => by
    unfold strF at h
    split at h
    · cases h; exact S
    · rename_i h0
      split at h
      · cases h
      · rename_i h1
        cases hx : nodeS (innerOf (cutB 10 rest).1) with
        | none => exact absurd (.inr (.inl hx)) h1
        | some x =>
          rw [hx, Option.getD_some] at h
          have hxu := (nodeS_in hx).1
          have hk : deepOf (cutB 10 rest).1 < path.length := Nat.lt_of_not_le fun hh => h1 (.inr (.inr (.inl hh)))
          have h200 : d.nodes.length ≤ 200 := Nat.le_of_not_lt fun hh => h1 (.inr (.inr (.inr hh)))
          have hp := hP _ (nth_mem' (l := path) (k := deepOf (cutB 10 rest).1) hk)
          have hl := cut_len10 h0
          have hc := (cutB_len 10 rest).1
          have hi : (innerOf (cutB 10 rest).1).length ≤ (cutB 10 rest).1.length := (List.dropWhile_sublist _).length_le
          refine strF_szb f _ _ _ h (S.kid (by omega) (by rw [← hxu]; exact nodeU_sm (by omega)) (by rw [← hxu]; exact nodeU_kids _) h200) (by rw [addKid_len]; exact path_next hP) (by omega)
def c28 : SFun := ⟨.seq (.reg [⟨some 1, .boxF 29 2 (.t 0), none⟩, ⟨some 2, .mv (.c (.str [])), none⟩, ⟨some 3, .mv (.c (.int .i64 0)), none⟩]) (.seq (.seq (.reg [⟨some 5, .ld 2 true (.t 1), none⟩, ⟨some 6, .pcall 22 [.t 5], none⟩, ⟨some 4, .mv (.t 6), none⟩]) (.seq (.reg [⟨some 7, .mv (.t 4), none⟩, ⟨some 8, .bin .neq (.t 7) (.c (.int .i64 0)), none⟩]) (.cond (.t 8) (.seq (.reg [⟨some 9, .mv (.t 4), none⟩, ⟨some 2, .mv (.c (.str [])), none⟩, ⟨some 3, .mv (.t 9), none⟩]) .ret) .skip))) (.seq (.reg [⟨some 10, .ld 2 true (.t 1), none⟩, ⟨some 11, .pcall 23 [.t 10], none⟩, ⟨some 2, .mv (.t 11), none⟩, ⟨some 3, .mv (.c (.int .i64 0)), none⟩]) .ret)), [.tmp 2, .tmp 3]⟩
theorem hc28 : toSF Tryd.prog {pure := [22, 23]} Tryd.f28 = some c28 := by kernel_rfl
theorem hn28 : (Tryd.f28.name == "runtime.NumGoroutine") = false := by kernel_rfl
theorem stree_ok (d : HDoc) (sm : DocSm d) (hd : docE d = 0) : PCalls (Pg G) 28 [.agg (eDoc d)] (.tup [.str (treeM d), aInt 0]) := fun h => by
  have hC := check_ok (G := G) d sm
  have hT := tree_ok (G := G) d ((docE_iff d).1 hd)
  rw [hd] at hC
  unfold eDoc at hC hT ⊢
  refine dcalls_of_vc Tryd.func28 hn28 hc28 (by rw [Tryd.ntmps28]; simp) (by rw [Tryd.ntmps28]; decide) ?_
  simp -dsimp -implicitDefEqProofs (disch := omega) only [VCA, pg_gl, ↓upd_none, Nat.reduceEqDiff, Nat.reduceBEq, Nat.reduceAdd, Nat.reduceSub, Nat.reduceMul, Nat.reduceLT, Nat.reduceLeDiff, ↓reduceIte, reduceCtorEq, rsOf, rootsOf, SOp.rd, SI.rd, SX.rd, rdL, rdO, rdP, okParts, eqCells, okEqCells, fillA, okFill, setAt, implies_true, forall_const, forall_eq, ne_eq, exists_eq_right_right, exists_eq_right, exists_eq_left, exists_eq_left', rootL, eAttr, eInt, eBool, lit_eq, c28]
  repeat' (first | ((with_reducible refine brC (fun _ => ?_) fun _ => ?_) <;> try (exfalso; omega)) | (with_reducible apply pcallE.of; · exact hC) | (with_reducible apply pcallE.of; · exact hT) | (with_reducible refine And.intro ?_ ?_; · omega) | simp -dsimp -implicitDefEqProofs (disch := omega) only [VCA, pg_gl, ↓upd_none, Nat.reduceEqDiff, Nat.reduceBEq, Nat.reduceAdd, Nat.reduceSub, Nat.reduceMul, Nat.reduceLT, Nat.reduceLeDiff, ↓reduceIte, reduceCtorEq, rsOf, rootsOf, SOp.rd, SI.rd, SX.rd, rdL, rdO, rdP, okParts, eqCells, okEqCells, fillA, okFill, setAt, implies_true, forall_const, forall_eq, ne_eq, exists_eq_right_right, exists_eq_right, exists_eq_left, exists_eq_left', rootL, eAttr, eInt, eBool, lit_eq])
  all_goals exact Sub.refl _
def c13 : SFun := ⟨.seq (.reg [⟨some 0, .mv (.c (.bool false)), none⟩]) (.seq (.reg [⟨some 8, .pcall 27 [], none⟩, ⟨some 9, .pcall 26 [.t 8, .c (.int .i64 0)], none⟩, ⟨some 7, .mv (.t 9), none⟩, ⟨some 10, .ext (.t 7) 0, none⟩, ⟨some 11, .ext (.t 7) 1, none⟩, ⟨some 1, .mv (.t 10), none⟩, ⟨some 2, .mv (.t 11), none⟩]) (.seq (.reg [⟨some 13, .pcall 27 [], none⟩, ⟨some 14, .pcall 28 [.t 13], none⟩, ⟨some 12, .mv (.t 14), none⟩, ⟨some 15, .ext (.t 12) 0, none⟩, ⟨some 16, .ext (.t 12) 1, none⟩, ⟨some 3, .mv (.t 15), none⟩, ⟨some 4, .mv (.t 16), none⟩]) (.seq (.reg [⟨some 18, .mv (.t 3), none⟩, ⟨some 19, .pcall 11 [.t 18], none⟩, ⟨some 17, .mv (.t 19), none⟩, ⟨some 20, .ext (.t 17) 0, none⟩, ⟨some 21, .ext (.t 17) 1, none⟩, ⟨some 5, .new 29 2 [.emp, .bool false], none⟩, ⟨none, .st 2 (.t 5) (.t 20), none⟩, ⟨some 6, .mv (.t 21), none⟩]) (.seq (.dreg [(⟨some 22, .mv (.t 1), none⟩, none), (⟨some 23, .bin .eql (.t 22) (.c (.str [60, 112, 32, 97, 61, 34, 38, 113, 117, 111, 116, 59, 34, 62, 38, 108, 116, 59, 10, 60, 47, 112, 62])), none⟩, none), (⟨some 24, .mv (.t 23), none⟩, none), (⟨some 25, .mv (.t 2), some (24, true)⟩, none), (⟨some 26, .bin .eql (.t 25) (.c (.int .i64 0)), some (24, true)⟩, none), (⟨some 27, .pick (.t 24) (.t 26) (.c (.bool false)), none⟩, none), (⟨some 28, .mv (.t 27), none⟩, none), (⟨some 29, .mv (.t 3), some (28, true)⟩, none), (⟨some 30, .bin .eql (.t 29) (.c (.str [112, 32, 97, 61, 34, 92, 50, 50, 34, 10, 32, 34, 60, 92, 48, 97, 34, 10])), some (28, true)⟩, none), (⟨some 31, .pick (.t 28) (.t 30) (.c (.bool false)), none⟩, none), (⟨some 32, .mv (.t 31), none⟩, none), (⟨some 33, .mv (.t 4), some (32, true)⟩, none), (⟨some 34, .bin .eql (.t 33) (.c (.int .i64 0)), some (32, true)⟩, none), (⟨some 35, .pick (.t 32) (.t 34) (.c (.bool false)), none⟩, none), (⟨some 36, .mv (.t 35), none⟩, none), (⟨some 37, .ld 2 true (.t 5), some (36, true)⟩, none), (⟨some 38, .pcall 27 [], some (36, true)⟩, none), (⟨some 39, .pcall 14 [.t 37, .t 38], some (36, true)⟩, none), (⟨some 40, .pick (.t 36) (.t 39) (.c (.bool false)), none⟩, none), (⟨some 41, .mv (.t 40), none⟩, none), (⟨some 42, .mv (.t 6), some (41, true)⟩, none), (⟨some 43, .bin .eql (.t 42) (.c (.int .i64 0)), some (41, true)⟩, none), (⟨some 44, .pick (.t 41) (.t 43) (.c (.bool false)), none⟩, none), (⟨some 0, .mv (.t 44), none⟩, none)]) .ret)))), [.tmp 0]⟩
theorem hc13 : toSF Tryd.prog {pure := [27, 26, 28, 11, 14]} Tryd.f13 = some c13 := by kernel_rfl
theorem hn13 : (Tryd.f13.name == "runtime.NumGoroutine") = false := by kernel_rfl
theorem serialBegun_ok (hG : MaxOK G) (hM : MaxLenOK G) : PCalls (Pg G) 13 [] (.bool true) := fun h => by
  obtain ⟨p1, p2, p3, p4⟩ := onePD_is
  have cO := oneP_ok (G := G)
  have cH := html_ok (G := G) hG onePD onePD_sm 0 (fun _ _ => by decide)
  have cT := stree_ok (G := G) onePD onePD_sm p1
  have cB := backS_ok (G := G) hM (treeM onePD) (by rw [p3]; decide)
  have cS := sameDoc_ok (G := G) onePD onePD onePD_sm onePD_sm
  rw [p2] at cH
  simp only at cH
  rw [p3, p4] at cB
  rw [p3] at cT
  have q1 : (onePD == onePD) = true := by simp
  rw [q1] at cS
  simp only [strR] at cB
  refine dcalls_of_vc Tryd.func13 hn13 hc13 (by rw [Tryd.ntmps13]; simp) (by rw [Tryd.ntmps13]; decide) ?_
  simp -dsimp -implicitDefEqProofs (disch := omega) only [↓vcOps_sp 24, ↓vcD_sp 24, ↓vcOps_sp 28, ↓vcD_sp 28, ↓vcOps_sp 32, ↓vcD_sp 32, ↓vcOps_sp 36, ↓vcD_sp 36, ↓vcOps_sp 41, ↓vcD_sp 41, VCA, pg_gl, ↓upd_none, Nat.reduceEqDiff, Nat.reduceBEq, Nat.reduceAdd, Nat.reduceSub, Nat.reduceMul, Nat.reduceLT, Nat.reduceLeDiff, ↓reduceIte, reduceCtorEq, rsOf, rootsOf, SOp.rd, SI.rd, SX.rd, rdL, rdO, rdP, okParts, eqCells, okEqCells, fillA, okFill, setAt, implies_true, forall_const, forall_eq, ne_eq, exists_eq_right_right, exists_eq_right, exists_eq_left, exists_eq_left', rootL, eAttr, eInt, eBool, lit_eq, c13]
  repeat' (first | ((with_reducible refine brC (fun _ => ?_) fun _ => ?_) <;> try (exfalso; omega)) | (with_reducible apply pcallE.of; · exact cO) | (with_reducible apply pcallE.of; · exact cH) | (with_reducible apply pcallE.of; · exact cT) | (with_reducible apply pcallE.of; · exact cB) | (with_reducible apply pcallE.of; · exact cS) | (with_reducible refine And.intro ?_ ?_; · omega) | simp -dsimp -implicitDefEqProofs (disch := omega) only [↓vcOps_sp 24, ↓vcD_sp 24, ↓vcOps_sp 28, ↓vcD_sp 28, ↓vcOps_sp 32, ↓vcD_sp 32, ↓vcOps_sp 36, ↓vcD_sp 36, ↓vcOps_sp 41, ↓vcD_sp 41, VCA, pg_gl, ↓upd_none, Nat.reduceEqDiff, Nat.reduceBEq, Nat.reduceAdd, Nat.reduceSub, Nat.reduceMul, Nat.reduceLT, Nat.reduceLeDiff, ↓reduceIte, reduceCtorEq, rsOf, rootsOf, SOp.rd, SI.rd, SX.rd, rdL, rdO, rdP, okParts, eqCells, okEqCells, fillA, okFill, setAt, implies_true, forall_const, forall_eq, ne_eq, exists_eq_right_right, exists_eq_right, exists_eq_left, exists_eq_left', rootL, eAttr, eInt, eBool, lit_eq])
  intro r5 hr5
  repeat' (first | ((with_reducible refine brC (fun _ => ?_) fun _ => ?_) <;> try (exfalso; omega)) | (with_reducible apply pcallE.of; · exact cO) | (with_reducible apply pcallE.of; · exact cH) | (with_reducible apply pcallE.of; · exact cT) | (with_reducible apply pcallE.of; · exact cB) | (with_reducible apply pcallE.of; · exact cS) | (with_reducible refine And.intro ?_ ?_; · omega) | simp -dsimp -implicitDefEqProofs (disch := omega) only [↓vcOps_sp 24, ↓vcD_sp 24, ↓vcOps_sp 28, ↓vcD_sp 28, ↓vcOps_sp 32, ↓vcD_sp 32, ↓vcOps_sp 36, ↓vcD_sp 36, ↓vcOps_sp 41, ↓vcD_sp 41, VCA, pg_gl, ↓upd_none, Nat.reduceEqDiff, Nat.reduceBEq, Nat.reduceAdd, Nat.reduceSub, Nat.reduceMul, Nat.reduceLT, Nat.reduceLeDiff, ↓reduceIte, reduceCtorEq, rsOf, rootsOf, SOp.rd, SI.rd, SX.rd, rdL, rdO, rdP, okParts, eqCells, okEqCells, fillA, okFill, setAt, implies_true, forall_const, forall_eq, ne_eq, exists_eq_right_right, exists_eq_right, exists_eq_left, exists_eq_left', rootL, eAttr, eInt, eBool, lit_eq, upd_same, docLen, docTake, docDrop, List.append_nil])
  all_goals first | (exfalso; exact absurd rfl (by assumption)) | exact ⟨(Sub.refl h).upd hr5, rfl⟩
def c4 : SFun := ⟨.seq (.reg [⟨some 2, .mv (.c (.bool false)), none⟩]) (.seq (.reg [⟨some 7, .mv (.t 0), none⟩, ⟨some 8, .pcall 5 [.t 7, .c (.int .i64 2000)], none⟩, ⟨some 0, .mv (.t 8), none⟩]) (.seq (.reg [⟨some 10, .mv (.t 0), none⟩, ⟨some 11, .pcall 11 [.t 10], none⟩, ⟨some 9, .mv (.t 11), none⟩, ⟨some 12, .ext (.t 9) 0, none⟩, ⟨some 13, .ext (.t 9) 1, none⟩, ⟨some 3, .new 29 2 [.emp, .bool false], none⟩, ⟨none, .st 2 (.t 3) (.t 12), none⟩, ⟨some 4, .mv (.t 13), none⟩]) (.seq (.reg [⟨some 15, .mv (.t 0), none⟩, ⟨some 16, .pcall 12 [.t 15], none⟩, ⟨some 14, .mv (.t 16), none⟩, ⟨some 17, .ext (.t 14) 0, none⟩, ⟨some 18, .ext (.t 14) 1, none⟩, ⟨some 5, .new 29 2 [.emp, .bool false], none⟩, ⟨none, .st 2 (.t 5) (.t 17), none⟩, ⟨some 6, .mv (.t 18), none⟩]) (.seq (.seq (.reg [⟨some 19, .mv (.t 6), none⟩, ⟨some 20, .un .not (.t 19), none⟩]) (.cond (.t 20) (.seq (.reg [⟨some 21, .pcall 13 [], none⟩, ⟨some 22, .mv (.t 21), none⟩, ⟨some 23, .mv (.t 4), some (22, true)⟩, ⟨some 24, .bin .eql (.t 23) (.c (.int .i64 4)), some (22, true)⟩, ⟨some 25, .pick (.t 22) (.t 24) (.c (.bool false)), none⟩, ⟨some 26, .mv (.t 25), none⟩, ⟨some 27, .fldA 0 (.t 3), some (26, true)⟩, ⟨some 28, .ld 1 false (.t 27), some (26, true)⟩, ⟨some 29, .len (.t 28), some (26, true)⟩, ⟨some 30, .bin .eql (.t 29) (.c (.int .i64 0)), some (26, true)⟩, ⟨some 31, .pick (.t 26) (.t 30) (.c (.bool false)), none⟩, ⟨some 2, .mv (.t 31), none⟩]) .ret) .skip)) (.seq (.reg [⟨some 32, .pcall 13 [], none⟩, ⟨some 33, .mv (.t 32), none⟩, ⟨some 34, .mv (.t 4), some (33, true)⟩, ⟨some 35, .bin .eql (.t 34) (.c (.int .i64 0)), some (33, true)⟩, ⟨some 36, .pick (.t 33) (.t 35) (.c (.bool false)), none⟩, ⟨some 37, .mv (.t 36), none⟩, ⟨some 38, .ld 2 true (.t 3), some (37, true)⟩, ⟨some 39, .ld 2 true (.t 5), some (37, true)⟩, ⟨some 40, .pcall 14 [.t 38, .t 39], some (37, true)⟩, ⟨some 41, .pick (.t 37) (.t 40) (.c (.bool false)), none⟩, ⟨some 2, .mv (.t 41), none⟩]) .ret))))), [.tmp 2]⟩
theorem hc4 : toSF Tryd.prog {pure := [5, 11, 12, 13, 14]} Tryd.f4 = some c4 := by kernel_rfl
theorem hn4 : (Tryd.f4.name == "runtime.NumGoroutine") = false := by kernel_rfl
theorem serialReads_ok (hG : MaxOK G) (hM : MaxLenOK G) (s : List UInt8) (hs : s.length ≤ 1073741824) : PCalls (Pg G) 4 [.str s] (.bool true) := fun h => by
  have c1 := some_ok (G := G) s 2000 hs
  have hl : (s.take 2000).length ≤ 1000000 := by rw [List.length_take]; omega
  generalize s.take 2000 = t at *
  have cB := backS_ok (G := G) hM t hl
  have cR := serialBack_ok (G := G) t hl
  have cE := serialBegun_ok (G := G) hG hM
  have k2000 : ((2000 : Nat) : Int) = 2000 := rfl
  rw [k2000] at c1
  cases hv : strV t with
  | none =>
    rw [hv] at cB cR
    simp only [strR, Option.isSome] at cB cR
    refine dcalls_of_vc Tryd.func4 hn4 hc4 (by rw [Tryd.ntmps4]; simp) (by rw [Tryd.ntmps4]; decide) ?_
    simp -dsimp -implicitDefEqProofs (disch := omega) only [↓vcOps_sp 22, ↓vcD_sp 22, ↓vcOps_sp 26, ↓vcD_sp 26, ↓vcOps_sp 33, ↓vcD_sp 33, ↓vcOps_sp 37, ↓vcD_sp 37, VCA, pg_gl, ↓upd_none, Nat.reduceEqDiff, Nat.reduceBEq, Nat.reduceAdd, Nat.reduceSub, Nat.reduceMul, Nat.reduceLT, Nat.reduceLeDiff, ↓reduceIte, reduceCtorEq, rsOf, rootsOf, SOp.rd, SI.rd, SX.rd, rdL, rdO, rdP, okParts, eqCells, okEqCells, fillA, okFill, setAt, implies_true, forall_const, forall_eq, ne_eq, exists_eq_right_right, exists_eq_right, exists_eq_left, exists_eq_left', rootL, eAttr, eInt, eBool, lit_eq, c4]
    repeat' (first | ((with_reducible refine brC (fun _ => ?_) fun _ => ?_) <;> try (exfalso; omega)) | (with_reducible apply pcallE.of; · exact c1) | (with_reducible apply pcallE.of; · exact cB) | (with_reducible apply pcallE.of; · exact cR) | (with_reducible apply pcallE.of; · exact cE) | (with_reducible refine And.intro ?_ ?_; · omega) | simp -dsimp -implicitDefEqProofs (disch := omega) only [↓vcOps_sp 22, ↓vcD_sp 22, ↓vcOps_sp 26, ↓vcD_sp 26, ↓vcOps_sp 33, ↓vcD_sp 33, ↓vcOps_sp 37, ↓vcD_sp 37, VCA, pg_gl, ↓upd_none, Nat.reduceEqDiff, Nat.reduceBEq, Nat.reduceAdd, Nat.reduceSub, Nat.reduceMul, Nat.reduceLT, Nat.reduceLeDiff, ↓reduceIte, reduceCtorEq, rsOf, rootsOf, SOp.rd, SI.rd, SX.rd, rdL, rdO, rdP, okParts, eqCells, okEqCells, fillA, okFill, setAt, implies_true, forall_const, forall_eq, ne_eq, exists_eq_right_right, exists_eq_right, exists_eq_left, exists_eq_left', rootL, eAttr, eInt, eBool, lit_eq, upd_same, docLen, docTake, docDrop, List.append_nil])
    intro r3 hr3
    have eE : eDoc emptyD = [.slc [], .bool false] := rfl
    repeat' (first | ((with_reducible refine brC (fun _ => ?_) fun _ => ?_) <;> try (exfalso; omega)) | (with_reducible apply pcallE.of; · exact c1) | (with_reducible apply pcallE.of; · exact cB) | (with_reducible apply pcallE.of; · exact cR) | (with_reducible apply pcallE.of; · exact cE) | (with_reducible refine And.intro ?_ ?_; · omega) | simp -dsimp -implicitDefEqProofs (disch := omega) only [↓vcOps_sp 22, ↓vcD_sp 22, ↓vcOps_sp 26, ↓vcD_sp 26, ↓vcOps_sp 33, ↓vcD_sp 33, ↓vcOps_sp 37, ↓vcD_sp 37, VCA, pg_gl, ↓upd_none, Nat.reduceEqDiff, Nat.reduceBEq, Nat.reduceAdd, Nat.reduceSub, Nat.reduceMul, Nat.reduceLT, Nat.reduceLeDiff, ↓reduceIte, reduceCtorEq, rsOf, rootsOf, SOp.rd, SI.rd, SX.rd, rdL, rdO, rdP, okParts, eqCells, okEqCells, fillA, okFill, setAt, implies_true, forall_const, forall_eq, ne_eq, exists_eq_right_right, exists_eq_right, exists_eq_left, exists_eq_left', rootL, eAttr, eInt, eBool, lit_eq, upd_same, docLen, docTake, docDrop, List.append_nil])
    rintro r5 ⟨n2, hr5⟩
    have n1 : ¬ r3 = r5 := fun q => n2 q.symm
    repeat' (first | ((with_reducible refine brC (fun _ => ?_) fun _ => ?_) <;> try (exfalso; omega)) | (with_reducible apply pcallE.of; · exact c1) | (with_reducible apply pcallE.of; · exact cB) | (with_reducible apply pcallE.of; · exact cR) | (with_reducible apply pcallE.of; · exact cE) | (with_reducible refine And.intro ?_ ?_; · omega) | simp -dsimp -implicitDefEqProofs (disch := omega) only [↓vcOps_sp 22, ↓vcD_sp 22, ↓vcOps_sp 26, ↓vcD_sp 26, ↓vcOps_sp 33, ↓vcD_sp 33, ↓vcOps_sp 37, ↓vcD_sp 37, VCA, pg_gl, ↓upd_none, Nat.reduceEqDiff, Nat.reduceBEq, Nat.reduceAdd, Nat.reduceSub, Nat.reduceMul, Nat.reduceLT, Nat.reduceLeDiff, ↓reduceIte, reduceCtorEq, rsOf, rootsOf, SOp.rd, SI.rd, SX.rd, rdL, rdO, rdP, okParts, eqCells, okEqCells, fillA, okFill, setAt, implies_true, forall_const, forall_eq, ne_eq, exists_eq_right_right, exists_eq_right, exists_eq_left, exists_eq_left', rootL, eAttr, eInt, eBool, lit_eq, upd_same, docLen, docTake, docDrop, List.append_nil, eE, n1, n2])
    all_goals first | exact ((Sub.refl h).upd hr3).upd hr5 | exact ⟨((Sub.refl h).upd hr3).upd hr5, rfl⟩
  | some D =>
    have hD : SzB D := by
      unfold strV at hv
      split at hv
      · cases hv
      · rename_i D' hD'
        split at hv
        · cases hv
          exact strF_szb _ _ _ _ hD' (rootD_szb _) root_path (by have := rest_len t; omega)
        · cases hv
    have cS := sameDoc_ok (G := G) D D hD.sm hD.sm
    have q1 : (D == D) = true := by simp
    rw [q1] at cS
    rw [hv] at cB cR
    simp only [strR, Option.isSome] at cB cR
    refine dcalls_of_vc Tryd.func4 hn4 hc4 (by rw [Tryd.ntmps4]; simp) (by rw [Tryd.ntmps4]; decide) ?_
    simp -dsimp -implicitDefEqProofs (disch := omega) only [↓vcOps_sp 22, ↓vcD_sp 22, ↓vcOps_sp 26, ↓vcD_sp 26, ↓vcOps_sp 33, ↓vcD_sp 33, ↓vcOps_sp 37, ↓vcD_sp 37, VCA, pg_gl, ↓upd_none, Nat.reduceEqDiff, Nat.reduceBEq, Nat.reduceAdd, Nat.reduceSub, Nat.reduceMul, Nat.reduceLT, Nat.reduceLeDiff, ↓reduceIte, reduceCtorEq, rsOf, rootsOf, SOp.rd, SI.rd, SX.rd, rdL, rdO, rdP, okParts, eqCells, okEqCells, fillA, okFill, setAt, implies_true, forall_const, forall_eq, ne_eq, exists_eq_right_right, exists_eq_right, exists_eq_left, exists_eq_left', rootL, eAttr, eInt, eBool, lit_eq, c4]
    repeat' (first | ((with_reducible refine brC (fun _ => ?_) fun _ => ?_) <;> try (exfalso; omega)) | (with_reducible apply pcallE.of; · exact c1) | (with_reducible apply pcallE.of; · exact cB) | (with_reducible apply pcallE.of; · exact cR) | (with_reducible apply pcallE.of; · exact cE) | (with_reducible apply pcallE.of; · exact cS) | (with_reducible refine And.intro ?_ ?_; · omega) | simp -dsimp -implicitDefEqProofs (disch := omega) only [↓vcOps_sp 22, ↓vcD_sp 22, ↓vcOps_sp 26, ↓vcD_sp 26, ↓vcOps_sp 33, ↓vcD_sp 33, ↓vcOps_sp 37, ↓vcD_sp 37, VCA, pg_gl, ↓upd_none, Nat.reduceEqDiff, Nat.reduceBEq, Nat.reduceAdd, Nat.reduceSub, Nat.reduceMul, Nat.reduceLT, Nat.reduceLeDiff, ↓reduceIte, reduceCtorEq, rsOf, rootsOf, SOp.rd, SI.rd, SX.rd, rdL, rdO, rdP, okParts, eqCells, okEqCells, fillA, okFill, setAt, implies_true, forall_const, forall_eq, ne_eq, exists_eq_right_right, exists_eq_right, exists_eq_left, exists_eq_left', rootL, eAttr, eInt, eBool, lit_eq, upd_same, docLen, docTake, docDrop, List.append_nil])
    intro r3 hr3
    repeat' (first | ((with_reducible refine brC (fun _ => ?_) fun _ => ?_) <;> try (exfalso; omega)) | (with_reducible apply pcallE.of; · exact c1) | (with_reducible apply pcallE.of; · exact cB) | (with_reducible apply pcallE.of; · exact cR) | (with_reducible apply pcallE.of; · exact cE) | (with_reducible apply pcallE.of; · exact cS) | (with_reducible refine And.intro ?_ ?_; · omega) | simp -dsimp -implicitDefEqProofs (disch := omega) only [↓vcOps_sp 22, ↓vcD_sp 22, ↓vcOps_sp 26, ↓vcD_sp 26, ↓vcOps_sp 33, ↓vcD_sp 33, ↓vcOps_sp 37, ↓vcD_sp 37, VCA, pg_gl, ↓upd_none, Nat.reduceEqDiff, Nat.reduceBEq, Nat.reduceAdd, Nat.reduceSub, Nat.reduceMul, Nat.reduceLT, Nat.reduceLeDiff, ↓reduceIte, reduceCtorEq, rsOf, rootsOf, SOp.rd, SI.rd, SX.rd, rdL, rdO, rdP, okParts, eqCells, okEqCells, fillA, okFill, setAt, implies_true, forall_const, forall_eq, ne_eq, exists_eq_right_right, exists_eq_right, exists_eq_left, exists_eq_left', rootL, eAttr, eInt, eBool, lit_eq, upd_same, docLen, docTake, docDrop, List.append_nil])
    rintro r5 ⟨n2, hr5⟩
    have n1 : ¬ r3 = r5 := fun q => n2 q.symm
    repeat' (first | ((with_reducible refine brC (fun _ => ?_) fun _ => ?_) <;> try (exfalso; omega)) | (with_reducible apply pcallE.of; · exact c1) | (with_reducible apply pcallE.of; · exact cB) | (with_reducible apply pcallE.of; · exact cR) | (with_reducible apply pcallE.of; · exact cE) | (with_reducible apply pcallE.of; · exact cS) | (with_reducible refine And.intro ?_ ?_; · omega) | simp -dsimp -implicitDefEqProofs (disch := omega) only [↓vcOps_sp 22, ↓vcD_sp 22, ↓vcOps_sp 26, ↓vcD_sp 26, ↓vcOps_sp 33, ↓vcD_sp 33, ↓vcOps_sp 37, ↓vcD_sp 37, VCA, pg_gl, ↓upd_none, Nat.reduceEqDiff, Nat.reduceBEq, Nat.reduceAdd, Nat.reduceSub, Nat.reduceMul, Nat.reduceLT, Nat.reduceLeDiff, ↓reduceIte, reduceCtorEq, rsOf, rootsOf, SOp.rd, SI.rd, SX.rd, rdL, rdO, rdP, okParts, eqCells, okEqCells, fillA, okFill, setAt, implies_true, forall_const, forall_eq, ne_eq, exists_eq_right_right, exists_eq_right, exists_eq_left, exists_eq_left', rootL, eAttr, eInt, eBool, lit_eq, upd_same, docLen, docTake, docDrop, List.append_nil, n1, n2])
    all_goals first | exact ((Sub.refl h).upd hr3).upd hr5 | exact ⟨((Sub.refl h).upd hr3).upd hr5, rfl⟩
end Go.Proofs.K
end
