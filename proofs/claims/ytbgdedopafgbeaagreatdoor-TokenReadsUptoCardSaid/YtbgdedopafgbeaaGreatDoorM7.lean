/- Texts of this claim, one behind the other. -/
import Derived.Test.YtbgdedopafgbeaaGreatDoorM5
import Derived.Test.YtbgdedopafgbeaaGreatDoorM6
import Derived.Shelf.Strings.SlTrimAscii
section
set_option linter.unusedSimpArgs false
set_option linter.unusedVariables false
namespace Go.Proofs.K
open Go Go.Sim Go.Proofs
variable {G : Glob}
theorem runeAt_cont (l : List UInt8) (p : Nat) : ∀ i, p < i → i < p + (runeAt l p).2 → 128 ≤ bt l i := by
  have hb : ∀ k, ((⟨l.toArray⟩ : ByteArray).get! (p + k)).toNat = (bt l (p + k)).toNat := fun k => by
    show (l.toArray.getD (p + k) default).toNat = _
    unfold bt
    simp [Array.getD_eq_getD_getElem?, List.getD_eq_getElem?_getD]
    rfl
  intro i h1 h2
  obtain ⟨k, rfl⟩ : ∃ k, i = p + k := ⟨i - p, by omega⟩
  have hk : k = 1 ∨ k = 2 ∨ k = 3 ∨ 4 ≤ k := by omega
  revert h2
  unfold runeAt Utf8.decode
  simp only [hb, Utf8.runeError]
  simp only [Bool.and_eq_true, decide_eq_true_eq, beq_iff_eq]
  (repeat' split) <;> intro h2 <;> (simp only at h2) <;> rcases hk with rfl | rfl | rfl | hk <;> first | omega | trace_state
theorem idxB_none {l : List UInt8} {c : UInt8} (h : c ∉ l) : Lib.indexByte l c = -1 := by
  have h1 := Lib.indexByte_ge l c
  by_cases h2 : Lib.indexByte l c = -1
  · exact h2
  · obtain ⟨o, ho⟩ : ∃ o : Nat, Lib.indexByte l c = o := ⟨(Lib.indexByte l c).toNat, by omega⟩
    exact absurd (List.mem_of_getElem? (Lib.indexByte_some ho).1) h
theorem idxB_some {l : List UInt8} {c : UInt8} (h : c ∈ l) : 0 ≤ Lib.indexByte l c := by
  have h1 := Lib.indexByte_ge l c
  by_cases h2 : Lib.indexByte l c = -1
  · obtain ⟨k, hk, e⟩ := List.getElem_of_mem h
    exact absurd (by rw [List.getElem?_eq_getElem hk, e]) (Lib.indexByte_none h2 k)
  · omega
theorem enc_is (c : Nat) (h : 128 ≤ c) (hv : Utf8.valid (c : Int) = true) : 2 ≤ (Utf8.encode (c : Int)).data.toList.length ∧ (Utf8.encode (c : Int)).data.toList.length ≤ 4 ∧ ∀ b ∈ (Utf8.encode (c : Int)).data.toList, 128 ≤ b.toNat := by
  have hc : c < 2097152 := by
    unfold Utf8.valid at hv
    simp only [Bool.or_eq_true, Bool.and_eq_true, decide_eq_true_eq] at hv
    omega
  unfold Utf8.encode
  simp only [hv, if_true, Int.toNat_natCast]
  (repeat' split)
  · omega
  all_goals
    refine ⟨by simp, by simp, fun b hb => ?_⟩
    simp at hb
    rcases hb with rfl | rfl | rfl | rfl <;> simp <;> omega
theorem valid_eq (c : Int) : validR c = Utf8.valid c := by
  unfold validR Utf8.valid
  rw [Bool.eq_iff_iff]
  simp only [Bool.or_eq_true, Bool.and_eq_true, decide_eq_true_eq]
  omega
def ixR (l : List UInt8) (c : Nat) : Int := if c < 128 then Lib.indexByte l (UInt8.ofNat c) else -1
def c93 : SFun := ⟨.seq (.reg [⟨some 4, .mv (.c (.int .i64 0)), none⟩]) (.block 0 (.seq (.reg [⟨some 161, .mv (.t 1), none⟩, ⟨some 162, .bin .leq (.c (.int .i32 0)) (.t 161), none⟩, ⟨some 163, .mv (.t 162), none⟩, ⟨some 164, .mv (.t 1), some (163, true)⟩, ⟨some 165, .bin .lss (.t 164) (.c (.int .i32 128)), some (163, true)⟩, ⟨some 166, .pick (.t 163) (.t 165) (.c (.bool false)), none⟩, ⟨some 160, .mv (.t 166), none⟩]) (.cond (.t 160) (.seq (.reg [⟨some 167, .mv (.t 0), none⟩, ⟨some 168, .mv (.t 1), none⟩, ⟨some 169, .cvi .u8 (.t 168), none⟩, ⟨some 170, .pcall 115 [.t 167, .t 169], none⟩, ⟨some 4, .mv (.t 170), none⟩]) .ret) (.seq (.reg [⟨some 172, .mv (.t 1), none⟩, ⟨some 173, .bin .eql (.t 172) (.c (.int .i32 65533)), none⟩, ⟨some 171, .mv (.t 173), none⟩]) (.cond (.t 171) (.seq (.seq (.reg [⟨some 174, .mv (.t 0), none⟩, ⟨some 175, .rng (.t 174), none⟩]) (.block 9 (.loop (.seq (.reg [⟨some 176, .nxt (.t 175), none⟩, ⟨some 177, .ext (.t 176) 0, none⟩]) (.seq (.cond (.t 177) .skip (.exit 9)) (.block 10 (.seq (.reg [⟨some 178, .ext (.t 176) 1, none⟩, ⟨some 179, .ext (.t 176) 2, none⟩, ⟨some 5, .mv (.t 178), none⟩, ⟨some 6, .mv (.t 179), none⟩]) (.seq (.reg [⟨some 180, .mv (.t 6), none⟩, ⟨some 181, .bin .eql (.t 180) (.c (.int .i32 65533)), none⟩]) (.cond (.t 181) (.seq (.reg [⟨some 182, .mv (.t 5), none⟩, ⟨some 4, .mv (.t 182), none⟩]) .ret) .skip))))))))) (.seq (.reg [⟨some 4, .mv (.c (.int .i64 (-1))), none⟩]) .ret)) (.seq (.reg [⟨some 184, .mv (.t 1), none⟩, ⟨some 185, .pcall 116 [.t 184], none⟩, ⟨some 186, .un .not (.t 185), none⟩, ⟨some 183, .mv (.t 186), none⟩]) (.cond (.t 183) (.seq (.reg [⟨some 4, .mv (.c (.int .i64 (-1))), none⟩]) .ret) (.scope 1 (.seq (.reg [⟨some 17, .mv (.t 1), none⟩, ⟨some 18, .r2s (.t 17), none⟩, ⟨some 7, .mv (.t 18), none⟩]) (.seq (.reg [⟨some 19, .mv (.t 7), none⟩, ⟨some 20, .lenS (.t 19), none⟩, ⟨some 21, .bin .sub (.t 20) (.c (.int .i64 1)), none⟩, ⟨some 8, .mv (.t 21), none⟩]) (.seq (.reg [⟨some 22, .mv (.t 8), none⟩, ⟨some 9, .mv (.t 22), none⟩]) (.seq (.reg [⟨some 10, .mv (.c (.int .i64 0)), none⟩]) (.seq (.block 1 (.loop (.seq (.seq (.reg [⟨some 23, .mv (.t 9), none⟩, ⟨some 24, .mv (.t 0), none⟩, ⟨some 25, .lenS (.t 24), none⟩, ⟨some 26, .bin .lss (.t 23) (.t 25), none⟩]) (.cond (.t 26) .skip (.exit 1))) (.block 2 (.scope 0 (.seq (.seq (.dreg [(⟨some 27, .mv (.t 0), none⟩, none), (⟨some 28, .mv (.t 9), none⟩, none), (⟨some 29, .idxS (.t 27) (.t 28), none⟩, none), (⟨some 30, .mv (.t 7), none⟩, none), (⟨some 31, .mv (.t 8), none⟩, none), (⟨some 32, .idxS (.t 30) (.t 31), none⟩, none), (⟨some 33, .bin .neq (.t 29) (.t 32), none⟩, none)]) (.cond (.t 33) (.seq (.dreg [(⟨some 34, .mv (.t 0), none⟩, none), (⟨some 35, .mv (.t 9), none⟩, none), (⟨some 36, .bin .add (.t 35) (.c (.int .i64 1)), none⟩, none), (⟨some 37, .slS (.t 34) (some (.t 36)) none, none⟩, none), (⟨some 38, .mv (.t 7), none⟩, none), (⟨some 39, .mv (.t 8), none⟩, none), (⟨some 40, .idxS (.t 38) (.t 39), none⟩, none), (⟨some 41, .pcall 115 [.t 37, .t 40], none⟩, none), (⟨some 11, .mv (.t 41), none⟩, none)]) (.seq (.seq (.reg [⟨some 42, .mv (.t 11), none⟩, ⟨some 43, .bin .lss (.t 42) (.c (.int .i64 0)), none⟩]) (.cond (.t 43) (.seq (.reg [⟨some 4, .mv (.c (.int .i64 (-1))), none⟩]) .ret) .skip)) (.reg [⟨some 44, .mv (.t 9), none⟩, ⟨some 45, .mv (.t 11), none⟩, ⟨some 46, .bin .add (.t 45) (.c (.int .i64 1)), none⟩, ⟨some 47, .bin .add (.t 44) (.t 46), none⟩, ⟨some 9, .mv (.t 47), none⟩]))) .skip)) (.seq (.seq (.reg [⟨some 12, .mv (.c (.int .i64 1)), none⟩]) (.block 3 (.loop (.seq (.seq (.reg [⟨some 48, .mv (.t 12), none⟩, ⟨some 49, .mv (.t 7), none⟩, ⟨some 50, .lenS (.t 49), none⟩, ⟨some 51, .bin .lss (.t 48) (.t 50), none⟩]) (.cond (.t 51) .skip (.exit 3))) (.seq (.block 4 (.seq (.dreg [(⟨some 54, .mv (.t 0), none⟩, none), (⟨some 55, .mv (.t 9), none⟩, none), (⟨some 56, .mv (.t 12), none⟩, none), (⟨some 57, .bin .sub (.t 55) (.t 56), none⟩, none), (⟨some 58, .idxS (.t 54) (.t 57), none⟩, none), (⟨some 59, .mv (.t 7), none⟩, none), (⟨some 60, .mv (.t 8), none⟩, none), (⟨some 61, .mv (.t 12), none⟩, none), (⟨some 62, .bin .sub (.t 60) (.t 61), none⟩, none), (⟨some 63, .idxS (.t 59) (.t 62), none⟩, none), (⟨some 64, .bin .neq (.t 58) (.t 63), none⟩, none)]) (.cond (.t 64) (.goto 0) .skip))) (.reg [⟨some 52, .mv (.t 12), none⟩, ⟨some 53, .bin .add (.t 52) (.c (.int .i64 1)), none⟩, ⟨some 12, .mv (.t 53), none⟩])))))) (.seq (.seq (.reg [⟨some 65, .mv (.t 9), none⟩, ⟨some 66, .mv (.t 8), none⟩, ⟨some 67, .bin .sub (.t 65) (.t 66), none⟩, ⟨some 4, .mv (.t 67), none⟩]) .ret) (.seq (.label 0) (.seq (.reg [⟨some 68, .mv (.t 10), none⟩, ⟨some 69, .bin .add (.t 68) (.c (.int .i64 1)), none⟩, ⟨some 10, .mv (.t 69), none⟩]) (.seq (.reg [⟨some 70, .mv (.t 9), none⟩, ⟨some 71, .bin .add (.t 70) (.c (.int .i64 1)), none⟩, ⟨some 9, .mv (.t 71), none⟩]) (.seq (.reg [⟨some 72, .mv (.c (.bool true)), none⟩, ⟨some 73, .mv (.t 10), some (72, true)⟩, ⟨some 74, .mv (.t 9), some (72, true)⟩, ⟨some 75, .call (.c (.fn 104 [] [])) [.t 74], some (72, true)⟩, ⟨some 76, .bin .gtr (.t 73) (.t 75), some (72, true)⟩, ⟨some 77, .pick (.t 72) (.t 76) (.c (.bool false)), none⟩, ⟨some 78, .mv (.t 77), none⟩, ⟨some 79, .mv (.t 9), some (78, true)⟩, ⟨some 80, .mv (.t 0), some (78, true)⟩, ⟨some 81, .lenS (.t 80), some (78, true)⟩, ⟨some 82, .bin .lss (.t 79) (.t 81), some (78, true)⟩, ⟨some 83, .pick (.t 78) (.t 82) (.c (.bool false)), none⟩, ⟨some 84, .mv (.t 83), none⟩, ⟨some 85, .mv (.c (.bool false)), some (84, false)⟩, ⟨some 86, .mv (.t 10), some (85, true)⟩, ⟨some 87, .mv (.t 9), some (85, true)⟩, ⟨some 88, .bin .shr (.t 87) (.c (.int .u64 4)), some (85, true)⟩, ⟨some 89, .bin .add (.c (.int .i64 4)) (.t 88), some (85, true)⟩, ⟨some 90, .bin .geq (.t 86) (.t 89), some (85, true)⟩, ⟨some 91, .pick (.t 85) (.t 90) (.c (.bool false)), some (84, false)⟩, ⟨some 92, .mv (.t 91), some (84, false)⟩, ⟨some 93, .mv (.t 9), some (92, true)⟩, ⟨some 94, .mv (.t 0), some (92, true)⟩, ⟨some 95, .lenS (.t 94), some (92, true)⟩, ⟨some 96, .bin .lss (.t 93) (.t 95), some (92, true)⟩, ⟨some 97, .pick (.t 92) (.t 96) (.c (.bool false)), some (84, false)⟩, ⟨some 98, .pick (.t 84) (.c (.bool true)) (.t 97), none⟩]) (.cond (.t 98) (.goto 1) .skip)))))))) (.seq .skip (.seq (.reg [⟨some 68, .mv (.t 10), none⟩, ⟨some 69, .bin .add (.t 68) (.c (.int .i64 1)), none⟩, ⟨some 10, .mv (.t 69), none⟩]) (.seq (.reg [⟨some 70, .mv (.t 9), none⟩, ⟨some 71, .bin .add (.t 70) (.c (.int .i64 1)), none⟩, ⟨some 9, .mv (.t 71), none⟩]) (.seq (.reg [⟨some 72, .mv (.c (.bool true)), none⟩, ⟨some 73, .mv (.t 10), some (72, true)⟩, ⟨some 74, .mv (.t 9), some (72, true)⟩, ⟨some 75, .call (.c (.fn 104 [] [])) [.t 74], some (72, true)⟩, ⟨some 76, .bin .gtr (.t 73) (.t 75), some (72, true)⟩, ⟨some 77, .pick (.t 72) (.t 76) (.c (.bool false)), none⟩, ⟨some 78, .mv (.t 77), none⟩, ⟨some 79, .mv (.t 9), some (78, true)⟩, ⟨some 80, .mv (.t 0), some (78, true)⟩, ⟨some 81, .lenS (.t 80), some (78, true)⟩, ⟨some 82, .bin .lss (.t 79) (.t 81), some (78, true)⟩, ⟨some 83, .pick (.t 78) (.t 82) (.c (.bool false)), none⟩, ⟨some 84, .mv (.t 83), none⟩, ⟨some 85, .mv (.c (.bool false)), some (84, false)⟩, ⟨some 86, .mv (.t 10), some (85, true)⟩, ⟨some 87, .mv (.t 9), some (85, true)⟩, ⟨some 88, .bin .shr (.t 87) (.c (.int .u64 4)), some (85, true)⟩, ⟨some 89, .bin .add (.c (.int .i64 4)) (.t 88), some (85, true)⟩, ⟨some 90, .bin .geq (.t 86) (.t 89), some (85, true)⟩, ⟨some 91, .pick (.t 85) (.t 90) (.c (.bool false)), some (84, false)⟩, ⟨some 92, .mv (.t 91), some (84, false)⟩, ⟨some 93, .mv (.t 9), some (92, true)⟩, ⟨some 94, .mv (.t 0), some (92, true)⟩, ⟨some 95, .lenS (.t 94), some (92, true)⟩, ⟨some 96, .bin .lss (.t 93) (.t 95), some (92, true)⟩, ⟨some 97, .pick (.t 92) (.t 96) (.c (.bool false)), some (84, false)⟩, ⟨some 98, .pick (.t 84) (.c (.bool true)) (.t 97), none⟩]) (.cond (.t 98) (.goto 1) .skip)))))))))) (.seq (.seq (.reg [⟨some 4, .mv (.c (.int .i64 (-1))), none⟩]) .ret) (.seq (.label 1) (.seq (.cond (.c (.bool true)) (.seq (.reg [⟨some 99, .mv (.t 0), none⟩, ⟨some 100, .mv (.t 9), none⟩, ⟨some 101, .mv (.t 8), none⟩, ⟨some 102, .bin .sub (.t 100) (.t 101), none⟩, ⟨some 103, .slS (.t 99) (some (.t 102)) none, none⟩, ⟨some 104, .mv (.t 1), none⟩, ⟨some 105, .r2s (.t 104), none⟩, ⟨some 106, .call (.c (.fn 103 [] [])) [.t 103, .t 105], none⟩, ⟨some 13, .mv (.t 106), none⟩]) (.seq (.reg [⟨some 107, .mv (.t 13), none⟩, ⟨some 108, .bin .geq (.t 107) (.c (.int .i64 0)), none⟩]) (.cond (.t 108) (.seq (.reg [⟨some 109, .mv (.t 9), none⟩, ⟨some 110, .mv (.t 13), none⟩, ⟨some 111, .bin .add (.t 109) (.t 110), none⟩, ⟨some 112, .mv (.t 8), none⟩, ⟨some 113, .bin .sub (.t 111) (.t 112), none⟩, ⟨some 4, .mv (.t 113), none⟩]) .ret) .skip))) (.scope 2 (.seq (.reg [⟨some 114, .mv (.t 7), none⟩, ⟨some 115, .mv (.t 8), none⟩, ⟨some 116, .idxS (.t 114) (.t 115), none⟩, ⟨some 14, .mv (.t 116), none⟩]) (.seq (.reg [⟨some 117, .mv (.t 7), none⟩, ⟨some 118, .mv (.t 8), none⟩, ⟨some 119, .bin .sub (.t 118) (.c (.int .i64 1)), none⟩, ⟨some 120, .idxS (.t 117) (.t 119), none⟩, ⟨some 15, .mv (.t 120), none⟩]) (.seq (.label 2) (.block 5 (.loop (.seq (.seq (.reg [⟨some 121, .mv (.t 9), none⟩, ⟨some 122, .mv (.t 0), none⟩, ⟨some 123, .lenS (.t 122), none⟩, ⟨some 124, .bin .lss (.t 121) (.t 123), none⟩]) (.cond (.t 124) .skip (.exit 5))) (.seq (.block 6 (.seq (.reg [⟨some 127, .mv (.t 0), none⟩, ⟨some 128, .mv (.t 9), none⟩, ⟨some 129, .idxS (.t 127) (.t 128), none⟩, ⟨some 130, .mv (.t 14), none⟩, ⟨some 131, .bin .eql (.t 129) (.t 130), none⟩, ⟨some 132, .mv (.t 131), none⟩, ⟨some 133, .mv (.t 0), some (132, true)⟩, ⟨some 134, .mv (.t 9), some (132, true)⟩, ⟨some 135, .bin .sub (.t 134) (.c (.int .i64 1)), some (132, true)⟩, ⟨some 136, .idxS (.t 133) (.t 135), some (132, true)⟩, ⟨some 137, .mv (.t 15), some (132, true)⟩, ⟨some 138, .bin .eql (.t 136) (.t 137), some (132, true)⟩, ⟨some 139, .pick (.t 132) (.t 138) (.c (.bool false)), none⟩]) (.cond (.t 139) (.seq (.seq (.reg [⟨some 16, .mv (.c (.int .i64 2)), none⟩]) (.block 7 (.loop (.seq (.seq (.reg [⟨some 140, .mv (.t 16), none⟩, ⟨some 141, .mv (.t 7), none⟩, ⟨some 142, .lenS (.t 141), none⟩, ⟨some 143, .bin .lss (.t 140) (.t 142), none⟩]) (.cond (.t 143) .skip (.exit 7))) (.seq (.block 8 (.seq (.dreg [(⟨some 146, .mv (.t 0), none⟩, none), (⟨some 147, .mv (.t 9), none⟩, none), (⟨some 148, .mv (.t 16), none⟩, none), (⟨some 149, .bin .sub (.t 147) (.t 148), none⟩, none), (⟨some 150, .idxS (.t 146) (.t 149), none⟩, none), (⟨some 151, .mv (.t 7), none⟩, none), (⟨some 152, .mv (.t 8), none⟩, none), (⟨some 153, .mv (.t 16), none⟩, none), (⟨some 154, .bin .sub (.t 152) (.t 153), none⟩, none), (⟨some 155, .idxS (.t 151) (.t 154), none⟩, none), (⟨some 156, .bin .neq (.t 150) (.t 155), none⟩, none)]) (.cond (.t 156) (.exit 6) .skip))) (.reg [⟨some 144, .mv (.t 16), none⟩, ⟨some 145, .bin .add (.t 144) (.c (.int .i64 1)), none⟩, ⟨some 16, .mv (.t 145), none⟩])))))) (.seq (.reg [⟨some 157, .mv (.t 9), none⟩, ⟨some 158, .mv (.t 8), none⟩, ⟨some 159, .bin .sub (.t 157) (.t 158), none⟩, ⟨some 4, .mv (.t 159), none⟩]) .ret)) .skip))) (.reg [⟨some 125, .mv (.t 9), none⟩, ⟨some 126, .bin .add (.t 125) (.c (.int .i64 1)), none⟩, ⟨some 9, .mv (.t 126), none⟩])))))))) (.seq .skip (.block 5 (.loop (.seq (.seq (.reg [⟨some 121, .mv (.t 9), none⟩, ⟨some 122, .mv (.t 0), none⟩, ⟨some 123, .lenS (.t 122), none⟩, ⟨some 124, .bin .lss (.t 121) (.t 123), none⟩]) (.cond (.t 124) .skip (.exit 5))) (.seq (.block 6 (.seq (.reg [⟨some 127, .mv (.t 0), none⟩, ⟨some 128, .mv (.t 9), none⟩, ⟨some 129, .idxS (.t 127) (.t 128), none⟩, ⟨some 130, .mv (.t 14), none⟩, ⟨some 131, .bin .eql (.t 129) (.t 130), none⟩, ⟨some 132, .mv (.t 131), none⟩, ⟨some 133, .mv (.t 0), some (132, true)⟩, ⟨some 134, .mv (.t 9), some (132, true)⟩, ⟨some 135, .bin .sub (.t 134) (.c (.int .i64 1)), some (132, true)⟩, ⟨some 136, .idxS (.t 133) (.t 135), some (132, true)⟩, ⟨some 137, .mv (.t 15), some (132, true)⟩, ⟨some 138, .bin .eql (.t 136) (.t 137), some (132, true)⟩, ⟨some 139, .pick (.t 132) (.t 138) (.c (.bool false)), none⟩]) (.cond (.t 139) (.seq (.seq (.reg [⟨some 16, .mv (.c (.int .i64 2)), none⟩]) (.block 7 (.loop (.seq (.seq (.reg [⟨some 140, .mv (.t 16), none⟩, ⟨some 141, .mv (.t 7), none⟩, ⟨some 142, .lenS (.t 141), none⟩, ⟨some 143, .bin .lss (.t 140) (.t 142), none⟩]) (.cond (.t 143) .skip (.exit 7))) (.seq (.block 8 (.seq (.dreg [(⟨some 146, .mv (.t 0), none⟩, none), (⟨some 147, .mv (.t 9), none⟩, none), (⟨some 148, .mv (.t 16), none⟩, none), (⟨some 149, .bin .sub (.t 147) (.t 148), none⟩, none), (⟨some 150, .idxS (.t 146) (.t 149), none⟩, none), (⟨some 151, .mv (.t 7), none⟩, none), (⟨some 152, .mv (.t 8), none⟩, none), (⟨some 153, .mv (.t 16), none⟩, none), (⟨some 154, .bin .sub (.t 152) (.t 153), none⟩, none), (⟨some 155, .idxS (.t 151) (.t 154), none⟩, none), (⟨some 156, .bin .neq (.t 150) (.t 155), none⟩, none)]) (.cond (.t 156) (.exit 6) .skip))) (.reg [⟨some 144, .mv (.t 16), none⟩, ⟨some 145, .bin .add (.t 144) (.c (.int .i64 1)), none⟩, ⟨some 16, .mv (.t 145), none⟩])))))) (.seq (.reg [⟨some 157, .mv (.t 9), none⟩, ⟨some 158, .mv (.t 8), none⟩, ⟨some 159, .bin .sub (.t 157) (.t 158), none⟩, ⟨some 4, .mv (.t 159), none⟩]) .ret)) .skip))) (.reg [⟨some 125, .mv (.t 9), none⟩, ⟨some 126, .bin .add (.t 125) (.c (.int .i64 1)), none⟩, ⟨some 9, .mv (.t 126), none⟩])))))))) (.seq (.reg [⟨some 4, .mv (.c (.int .i64 (-1))), none⟩]) .ret))))))))) (.seq .skip (.seq (.cond (.c (.bool true)) (.seq (.reg [⟨some 99, .mv (.t 0), none⟩, ⟨some 100, .mv (.t 9), none⟩, ⟨some 101, .mv (.t 8), none⟩, ⟨some 102, .bin .sub (.t 100) (.t 101), none⟩, ⟨some 103, .slS (.t 99) (some (.t 102)) none, none⟩, ⟨some 104, .mv (.t 1), none⟩, ⟨some 105, .r2s (.t 104), none⟩, ⟨some 106, .call (.c (.fn 103 [] [])) [.t 103, .t 105], none⟩, ⟨some 13, .mv (.t 106), none⟩]) (.seq (.reg [⟨some 107, .mv (.t 13), none⟩, ⟨some 108, .bin .geq (.t 107) (.c (.int .i64 0)), none⟩]) (.cond (.t 108) (.seq (.reg [⟨some 109, .mv (.t 9), none⟩, ⟨some 110, .mv (.t 13), none⟩, ⟨some 111, .bin .add (.t 109) (.t 110), none⟩, ⟨some 112, .mv (.t 8), none⟩, ⟨some 113, .bin .sub (.t 111) (.t 112), none⟩, ⟨some 4, .mv (.t 113), none⟩]) .ret) .skip))) (.scope 2 (.seq (.reg [⟨some 114, .mv (.t 7), none⟩, ⟨some 115, .mv (.t 8), none⟩, ⟨some 116, .idxS (.t 114) (.t 115), none⟩, ⟨some 14, .mv (.t 116), none⟩]) (.seq (.reg [⟨some 117, .mv (.t 7), none⟩, ⟨some 118, .mv (.t 8), none⟩, ⟨some 119, .bin .sub (.t 118) (.c (.int .i64 1)), none⟩, ⟨some 120, .idxS (.t 117) (.t 119), none⟩, ⟨some 15, .mv (.t 120), none⟩]) (.seq (.label 2) (.block 5 (.loop (.seq (.seq (.reg [⟨some 121, .mv (.t 9), none⟩, ⟨some 122, .mv (.t 0), none⟩, ⟨some 123, .lenS (.t 122), none⟩, ⟨some 124, .bin .lss (.t 121) (.t 123), none⟩]) (.cond (.t 124) .skip (.exit 5))) (.seq (.block 6 (.seq (.reg [⟨some 127, .mv (.t 0), none⟩, ⟨some 128, .mv (.t 9), none⟩, ⟨some 129, .idxS (.t 127) (.t 128), none⟩, ⟨some 130, .mv (.t 14), none⟩, ⟨some 131, .bin .eql (.t 129) (.t 130), none⟩, ⟨some 132, .mv (.t 131), none⟩, ⟨some 133, .mv (.t 0), some (132, true)⟩, ⟨some 134, .mv (.t 9), some (132, true)⟩, ⟨some 135, .bin .sub (.t 134) (.c (.int .i64 1)), some (132, true)⟩, ⟨some 136, .idxS (.t 133) (.t 135), some (132, true)⟩, ⟨some 137, .mv (.t 15), some (132, true)⟩, ⟨some 138, .bin .eql (.t 136) (.t 137), some (132, true)⟩, ⟨some 139, .pick (.t 132) (.t 138) (.c (.bool false)), none⟩]) (.cond (.t 139) (.seq (.seq (.reg [⟨some 16, .mv (.c (.int .i64 2)), none⟩]) (.block 7 (.loop (.seq (.seq (.reg [⟨some 140, .mv (.t 16), none⟩, ⟨some 141, .mv (.t 7), none⟩, ⟨some 142, .lenS (.t 141), none⟩, ⟨some 143, .bin .lss (.t 140) (.t 142), none⟩]) (.cond (.t 143) .skip (.exit 7))) (.seq (.block 8 (.seq (.dreg [(⟨some 146, .mv (.t 0), none⟩, none), (⟨some 147, .mv (.t 9), none⟩, none), (⟨some 148, .mv (.t 16), none⟩, none), (⟨some 149, .bin .sub (.t 147) (.t 148), none⟩, none), (⟨some 150, .idxS (.t 146) (.t 149), none⟩, none), (⟨some 151, .mv (.t 7), none⟩, none), (⟨some 152, .mv (.t 8), none⟩, none), (⟨some 153, .mv (.t 16), none⟩, none), (⟨some 154, .bin .sub (.t 152) (.t 153), none⟩, none), (⟨some 155, .idxS (.t 151) (.t 154), none⟩, none), (⟨some 156, .bin .neq (.t 150) (.t 155), none⟩, none)]) (.cond (.t 156) (.exit 6) .skip))) (.reg [⟨some 144, .mv (.t 16), none⟩, ⟨some 145, .bin .add (.t 144) (.c (.int .i64 1)), none⟩, ⟨some 16, .mv (.t 145), none⟩])))))) (.seq (.reg [⟨some 157, .mv (.t 9), none⟩, ⟨some 158, .mv (.t 8), none⟩, ⟨some 159, .bin .sub (.t 157) (.t 158), none⟩, ⟨some 4, .mv (.t 159), none⟩]) .ret)) .skip))) (.reg [⟨some 125, .mv (.t 9), none⟩, ⟨some 126, .bin .add (.t 125) (.c (.int .i64 1)), none⟩, ⟨some 9, .mv (.t 126), none⟩])))))))) (.seq .skip (.block 5 (.loop (.seq (.seq (.reg [⟨some 121, .mv (.t 9), none⟩, ⟨some 122, .mv (.t 0), none⟩, ⟨some 123, .lenS (.t 122), none⟩, ⟨some 124, .bin .lss (.t 121) (.t 123), none⟩]) (.cond (.t 124) .skip (.exit 5))) (.seq (.block 6 (.seq (.reg [⟨some 127, .mv (.t 0), none⟩, ⟨some 128, .mv (.t 9), none⟩, ⟨some 129, .idxS (.t 127) (.t 128), none⟩, ⟨some 130, .mv (.t 14), none⟩, ⟨some 131, .bin .eql (.t 129) (.t 130), none⟩, ⟨some 132, .mv (.t 131), none⟩, ⟨some 133, .mv (.t 0), some (132, true)⟩, ⟨some 134, .mv (.t 9), some (132, true)⟩, ⟨some 135, .bin .sub (.t 134) (.c (.int .i64 1)), some (132, true)⟩, ⟨some 136, .idxS (.t 133) (.t 135), some (132, true)⟩, ⟨some 137, .mv (.t 15), some (132, true)⟩, ⟨some 138, .bin .eql (.t 136) (.t 137), some (132, true)⟩, ⟨some 139, .pick (.t 132) (.t 138) (.c (.bool false)), none⟩]) (.cond (.t 139) (.seq (.seq (.reg [⟨some 16, .mv (.c (.int .i64 2)), none⟩]) (.block 7 (.loop (.seq (.seq (.reg [⟨some 140, .mv (.t 16), none⟩, ⟨some 141, .mv (.t 7), none⟩, ⟨some 142, .lenS (.t 141), none⟩, ⟨some 143, .bin .lss (.t 140) (.t 142), none⟩]) (.cond (.t 143) .skip (.exit 7))) (.seq (.block 8 (.seq (.dreg [(⟨some 146, .mv (.t 0), none⟩, none), (⟨some 147, .mv (.t 9), none⟩, none), (⟨some 148, .mv (.t 16), none⟩, none), (⟨some 149, .bin .sub (.t 147) (.t 148), none⟩, none), (⟨some 150, .idxS (.t 146) (.t 149), none⟩, none), (⟨some 151, .mv (.t 7), none⟩, none), (⟨some 152, .mv (.t 8), none⟩, none), (⟨some 153, .mv (.t 16), none⟩, none), (⟨some 154, .bin .sub (.t 152) (.t 153), none⟩, none), (⟨some 155, .idxS (.t 151) (.t 154), none⟩, none), (⟨some 156, .bin .neq (.t 150) (.t 155), none⟩, none)]) (.cond (.t 156) (.exit 6) .skip))) (.reg [⟨some 144, .mv (.t 16), none⟩, ⟨some 145, .bin .add (.t 144) (.c (.int .i64 1)), none⟩, ⟨some 16, .mv (.t 145), none⟩])))))) (.seq (.reg [⟨some 157, .mv (.t 9), none⟩, ⟨some 158, .mv (.t 8), none⟩, ⟨some 159, .bin .sub (.t 157) (.t 158), none⟩, ⟨some 4, .mv (.t 159), none⟩]) .ret)) .skip))) (.reg [⟨some 125, .mv (.t 9), none⟩, ⟨some 126, .bin .add (.t 125) (.c (.int .i64 1)), none⟩, ⟨some 9, .mv (.t 126), none⟩])))))))) (.seq (.reg [⟨some 4, .mv (.c (.int .i64 (-1))), none⟩]) .ret))))))))))), [.tmp 4]⟩
theorem hc93 : toSF Tryz.prog {pure := [115, 116], mp := [175]} Tryz.f93 = some c93 := by kernel_rfl
theorem hn93 : (Tryz.f93.name == "runtime.NumGoroutine") = false := by kernel_rfl
set_option maxHeartbeats 1000000 in
theorem indexRune_ok (l : List UInt8) (c : Nat) (hc : c < 2147483648) (hl : l.length ≤ 1000) (ha : ∀ b ∈ l, b.toNat < 128) : PCalls (Pg G) 93 [.str l, .int .i32 c] (aInt (ixR l c)) := fun h => by
  have hbt : ∀ i, i < l.length → bt l i < 128 := fun i hi => by
    unfold bt; rw [List.getD_eq_getElem?_getD, List.getElem?_eq_getElem hi]
    have := ha _ (List.getElem_mem hi)
    simp only [Option.getD_some]
    omega
  unfold ixR
  by_cases h1 : c < 128
  · rw [if_pos h1]
    have cB := indexByte_ok (G := G) l (UInt8.ofNat c)
    have e1 : ((UInt8.ofNat c).toNat : Int) = c := by
      have : (UInt8.ofNat c).toNat = c := by simp; omega
      rw [this]
    rw [e1] at cB
    have e2 : IntKind.u8.wrap (c : Int) = c := by simp only [IntKind.wrap_u8]; omega
    refine dcalls_of_vc Tryz.func93 hn93 hc93 (by rw [Tryz.ntmps93]; simp) (by rw [Tryz.ntmps93]; decide) ?_
    simp -dsimp -implicitDefEqProofs (disch := omega) only [↓vcOps_sp 163, VCA, Nat.reduceEqDiff, ↓reduceIte, c93]
    repeat' (first | ((with_reducible refine brC (fun _ => ?_) fun _ => ?_) <;> try (exfalso; omega)) | (with_reducible apply pcallE.of; · exact cB) | (with_reducible refine And.intro ?_ ?_; · omega) | simp -dsimp -implicitDefEqProofs (disch := omega) only [VCA, Nat.reduceEqDiff, ↓reduceIte, reduceCtorEq, exists_eq_right, e2])
    all_goals first | exact ⟨Sub.refl _, rfl⟩ | exact Sub.refl _ | (exfalso; omega) | trace_state
  · rw [if_neg h1]
    by_cases h2 : c = 65533
    · subst h2
      refine dcalls_of_vc Tryz.func93 hn93 hc93 (by rw [Tryz.ntmps93]; simp) (by rw [Tryz.ntmps93]; decide) ?_
      simp -dsimp -implicitDefEqProofs (disch := omega) only [↓vcOps_sp 163, VCA, Nat.reduceEqDiff, ↓reduceIte, c93]
      have o1 : (((65533 : Nat) : Int)) = 65533 := rfl
      repeat' (first | ((with_reducible refine brC (fun _ => ?_) fun _ => ?_) <;> try (exfalso; omega)) | (with_reducible refine And.intro ?_ ?_; · omega) | simp -dsimp -implicitDefEqProofs (disch := omega) only [VCA, Nat.reduceEqDiff, ↓reduceIte, reduceCtorEq, o1])
      intro r hr
      refine LoopVC.intro (fun m e h' => ∃ p : Nat, p ≤ l.length ∧ m = l.length - p ∧ e 175 = .ptr r 0 0 ∧ h' = upd h r (some (itO l p))) l.length
        (by
          exact ⟨0, by omega, by omega, rfl, rfl⟩) ?_
      rintro m e h' ⟨p, hp, rfl, e175, rfl⟩
      have hit : upd h r (some (itO l p)) r = some (itO l p) := upd_same _ _ _
      repeat' (first | ((with_reducible refine brC (fun _ => ?_) fun _ => ?_) <;> try (exfalso; omega)) | (with_reducible refine And.intro ?_ ?_; · omega) | simp -dsimp -implicitDefEqProofs (disch := omega) only [VCA, Nat.reduceEqDiff, Nat.reduceAdd, Nat.reduceLT, ↓reduceIte, exists_eq_right, e175])
      refine ⟨_, _, rfl, fun hlt => ?_, fun hge => ?_⟩
      · have hq := runeAt_is l p hlt
        have hb := hbt p hlt
        have hq1 := hq.1 hb
        have hq0 : (runeAt l p).1 = (bt l p).toNat := by rw [hq1]
        have h0 : 0 ≤ bt l p := by unfold bt; omega
        have n1 : ((((bt l p).toNat : Nat) : Int) == 65533) = false := by rw [beq_eq_false_iff_ne]; omega
        repeat' (first | ((with_reducible refine brC (fun _ => ?_) fun _ => ?_) <;> try (exfalso; omega)) | (with_reducible refine And.intro ?_ ?_; · omega) | simp -dsimp -implicitDefEqProofs (disch := omega) only [VCA, Nat.reduceEqDiff, ↓reduceIte, e175, hq1, n1])
        all_goals first | exact ⟨_, by omega, p + 1, by omega, rfl, rfl⟩ | (exfalso; omega) | trace_state
      · repeat' (first | ((with_reducible refine brC (fun _ => ?_) fun _ => ?_) <;> try (exfalso; omega)) | (with_reducible refine And.intro ?_ ?_; · omega) | simp -dsimp -implicitDefEqProofs (disch := omega) only [↓vcOps_sp 72, ↓vcD_sp 72, ↓vcOps_sp 78, ↓vcD_sp 78, ↓vcOps_sp 84, ↓vcD_sp 84, ↓vcOps_sp 85, ↓vcD_sp 85, ↓vcOps_sp 92, ↓vcD_sp 92, ↓vcOps_sp 132, ↓vcD_sp 132, ↓vcOps_sp 163, ↓vcD_sp 163, VCA, pg_gl, ↓upd_none, Nat.reduceEqDiff, Nat.reduceBEq, Nat.reduceAdd, Nat.reduceSub, Nat.reduceMul, Nat.reduceLT, Nat.reduceLeDiff, ↓reduceIte, reduceCtorEq, rsOf, rootsOf, SOp.rd, SI.rd, SX.rd, rdL, rdO, rdP, okParts, eqCells, okEqCells, fillA, okFill, setAt, implies_true, forall_const, forall_eq, ne_eq, exists_eq_right_right, exists_eq_right, exists_eq_left, exists_eq_left', rootL, lit_eq, deVp_tup, e175])
        exact (Sub.refl _).upd hr
    · have cV := validRune_ok (G := G) (c : Int)
      rw [valid_eq] at cV
      cases hv : Utf8.valid (c : Int) with
      | false =>
        rw [hv] at cV
        refine dcalls_of_vc Tryz.func93 hn93 hc93 (by rw [Tryz.ntmps93]; simp) (by rw [Tryz.ntmps93]; decide) ?_
        simp -dsimp -implicitDefEqProofs (disch := omega) only [↓vcOps_sp 163, VCA, Nat.reduceEqDiff, ↓reduceIte, c93]
        repeat' (first | ((with_reducible refine brC (fun _ => ?_) fun _ => ?_) <;> try (exfalso; omega)) | (with_reducible apply pcallE.of; · exact cV) | (with_reducible refine And.intro ?_ ?_; · omega) | simp -dsimp -implicitDefEqProofs (disch := omega) only [VCA, Nat.reduceEqDiff, ↓reduceIte, exists_eq_right])
        all_goals first | exact ⟨Sub.refl _, rfl⟩ | exact Sub.refl _ | (exfalso; omega) | trace_state
      | true =>
        rw [hv] at cV
        obtain ⟨n1, n4, n2⟩ := enc_is c (by omega) hv
        obtain ⟨E, hE⟩ : ∃ E, (Utf8.encode (c : Int)).data.toList = E := ⟨_, rfl⟩
        rw [hE] at n1 n4 n2
        obtain ⟨z, hz⟩ : ∃ z, E.getD (E.length - 1) 0 = z := ⟨_, rfl⟩
        have hz128 : 128 ≤ z.toNat := n2 z (by rw [← hz, List.getD_eq_getElem?_getD, List.getElem?_eq_getElem (by omega)]; exact List.getElem_mem _)
        have el : ((E.length : Int) - 1).toNat = E.length - 1 := by omega
        have t0 : 0 ≤ (E.length : Int) - 1 := by omega
        have ec : ((E.length : Int) - 1) = ((E.length - 1 : Nat) : Int) := by omega
        obtain ⟨d, hd⟩ : ∃ d, E.length - 1 = d := ⟨_, rfl⟩
        rw [hd] at hz ec
        have cB := indexByte_ok (G := G) (l.drop (d + 1)) z
        rw [idxB_none (fun hm => by have := ha z (List.mem_of_mem_drop hm); omega)] at cB
        refine dcalls_of_vc Tryz.func93 hn93 hc93 (by rw [Tryz.ntmps93]; simp) (by rw [Tryz.ntmps93]; decide) ?_
        simp -dsimp -implicitDefEqProofs (disch := omega) only [↓vcOps_sp 163, VCA, Nat.reduceEqDiff, ↓reduceIte, c93]
        have wd : IntKind.i64.wrap (d : Int) = d := by simp only [IntKind.wrap_i64]; omega
        repeat' (first | ((with_reducible refine brC (fun _ => ?_) fun _ => ?_) <;> try (exfalso; omega)) | (with_reducible apply pcallE.of; · exact cV) | (with_reducible refine And.intro ?_ ?_; · omega) | simp -dsimp -implicitDefEqProofs (disch := omega) only [VCA, Nat.reduceEqDiff, ↓reduceIte, hE, ec, wd])
        refine LoopVC.intro (fun m e h' => m = 1 ∧ e 0 = .str l ∧ e 7 = .str E ∧ e 8 = aInt d ∧ e 9 = aInt d ∧ h' = h) 1 (by refine ⟨rfl, ?_, ?_, ?_, ?_, rfl⟩ <;> first | rfl | trace_state) ?_
        rintro m e h' ⟨rfl, e0, e7, e8, e9, hh⟩
        by_cases hlt : d < l.length
        · obtain ⟨y, hy⟩ : ∃ y, l.getD d 0 = y := ⟨_, rfl⟩
          have y128 : y.toNat < 128 := ha y (by rw [← hy, List.getD_eq_getElem?_getD, List.getElem?_eq_getElem hlt]; exact List.getElem_mem _)
          have nyz : ((y.toNat : Int) != (z.toNat : Int)) = true := by rw [bne_iff_ne]; omega
          repeat' (first | ((with_reducible refine brC (fun _ => ?_) fun _ => ?_) <;> try (exfalso; omega)) | (with_reducible apply pcallE.of; · exact cB) | (with_reducible refine And.intro ?_ ?_; · omega) | simp -dsimp -implicitDefEqProofs (disch := omega) only [VCA, Nat.reduceEqDiff, ↓reduceIte, reduceCtorEq, rsOf, rootsOf, exists_eq_right, rootL, e0, e7, e8, e9, hy, hz, nyz])
          all_goals first | exact ⟨by rw [hh]; exact Sub.refl _, rfl⟩ | (rw [hh]; exact Sub.refl _) | (exfalso; omega) | trace_state
        · repeat' (first | ((with_reducible refine brC (fun _ => ?_) fun _ => ?_) <;> try (exfalso; omega)) | (with_reducible refine And.intro ?_ ?_; · omega) | simp -dsimp -implicitDefEqProofs (disch := omega) only [VCA, Nat.reduceEqDiff, ↓reduceIte, reduceCtorEq, exists_eq_right, e0, e9])
          all_goals first | exact ⟨by rw [hh]; exact Sub.refl _, rfl⟩ | (rw [hh]; exact Sub.refl _) | (exfalso; omega) | trace_state
def c94 : SFun := ⟨.seq (.reg [⟨some 2, .mv (.c (.bool false)), none⟩]) (.seq (.reg [⟨some 3, .mv (.t 0), none⟩, ⟨some 4, .bin .gtr (.t 3) (.c (.int .i64 8)), none⟩, ⟨some 2, .mv (.t 4), none⟩]) .ret), [.tmp 2]⟩
theorem hc94 : toSF Tryz.prog {} Tryz.f94 = some c94 := by kernel_rfl
theorem hn94 : (Tryz.f94.name == "runtime.NumGoroutine") = false := by kernel_rfl
theorem useSet_ok (n : Nat) : PCalls (Pg G) 94 [aInt n] (.bool (decide (8 < n))) := fun h => by
  refine dcalls_of_vc Tryz.func94 hn94 hc94 (by rw [Tryz.ntmps94]; simp) (by rw [Tryz.ntmps94]; decide) ?_
  simp -dsimp -implicitDefEqProofs (disch := omega) only [VCA, ↓reduceIte, reduceCtorEq, exists_eq_right_right, c94]
  repeat' (first | ((with_reducible refine brC (fun _ => ?_) fun _ => ?_) <;> try (exfalso; omega)) | (with_reducible refine And.intro ?_ ?_; · omega) | simp -dsimp -implicitDefEqProofs (disch := omega) only [VCA, pg_gl, ↓upd_none, Nat.reduceEqDiff, Nat.reduceBEq, Nat.reduceAdd, Nat.reduceSub, Nat.reduceMul, Nat.reduceLT, Nat.reduceLeDiff, ↓reduceIte, reduceCtorEq, rsOf, rootsOf, SOp.rd, SI.rd, SX.rd, rdL, rdO, rdP, okParts, eqCells, okEqCells, fillA, okFill, setAt, implies_true, forall_const, forall_eq, ne_eq, exists_eq_right_right, exists_eq_right, exists_eq_left, exists_eq_left', rootL, lit_eq, deVp_tup])
  all_goals first | exact ⟨Sub.refl _, by simp; omega⟩ | exact Sub.refl _ | trace_state
def blS : List UInt8 := [32, 9, 10, 12, 13]
theorem blS_is (b : UInt8) : blS.contains b = blankI b.toNat := of_decide_eq_true (u8_all (p := fun b => decide (blS.contains b = blankI b.toNat)) (by decide +kernel) b)
def stopB (s : List UInt8) : Nat := firstM (fun i => blankI (bt s i)) s.length 0
def ixBl (s : List UInt8) : Int := if stopB s < s.length then stopB s else -1
theorem blankI_ge {b : Int} (h : 128 ≤ b) : blankI b = false := by
  unfold blankI
  simp only [Bool.or_eq_false_iff, beq_eq_false_iff_ne]
  omega
def c74 : SFun := ⟨.seq (.reg [⟨some 4, .mv (.c (.int .i64 0)), none⟩]) (.seq (.seq (.reg [⟨some 11, .mv (.t 1), none⟩, ⟨some 12, .bin .eql (.t 11) (.c (.str [])), none⟩]) (.cond (.t 12) (.seq (.reg [⟨some 4, .mv (.c (.int .i64 (-1))), none⟩]) .ret) .skip)) (.seq (.seq (.reg [⟨some 13, .mv (.t 1), none⟩, ⟨some 14, .lenS (.t 13), none⟩, ⟨some 15, .bin .eql (.t 14) (.c (.int .i64 1)), none⟩]) (.cond (.t 15) (.seq (.reg [⟨some 16, .mv (.t 1), none⟩, ⟨some 17, .idxS (.t 16) (.c (.int .i64 0)), none⟩, ⟨some 18, .cvi .i32 (.t 17), none⟩, ⟨some 5, .mv (.t 18), none⟩]) (.seq (.seq (.reg [⟨some 19, .mv (.t 5), none⟩, ⟨some 20, .bin .geq (.t 19) (.c (.int .i32 128)), none⟩]) (.cond (.t 20) (.reg [⟨some 5, .mv (.c (.int .i32 65533)), none⟩]) .skip)) (.seq (.reg [⟨some 21, .mv (.t 0), none⟩, ⟨some 22, .mv (.t 5), none⟩, ⟨some 23, .pcall 93 [.t 21, .t 22], none⟩, ⟨some 4, .mv (.t 23), none⟩]) .ret))) .skip)) (.seq (.seq (.reg [⟨some 24, .mv (.t 0), none⟩, ⟨some 25, .lenS (.t 24), none⟩, ⟨some 26, .pcall 94 [.t 25], none⟩]) (.cond (.t 26) (.seq (.reg [⟨some 28, .mv (.t 1), none⟩, ⟨some 29, .call (.c (.fn 90 [] [])) [.t 28], none⟩, ⟨some 27, .mv (.t 29), none⟩, ⟨some 30, .ext (.t 27) 0, none⟩, ⟨some 31, .ext (.t 27) 1, none⟩, ⟨some 6, .new 120 256 [.bool false, .bool false, .bool false, .bool false, .bool false, .bool false, .bool false, .bool false, .bool false, .bool false, .bool false, .bool false, .bool false, .bool false, .bool false, .bool false, .bool false, .bool false, .bool false, .bool false, .bool false, .bool false, .bool false, .bool false, .bool false, .bool false, .bool false, .bool false, .bool false, .bool false, .bool false, .bool false, .bool false, .bool false, .bool false, .bool false, .bool false, .bool false, .bool false, .bool false, .bool false, .bool false, .bool false, .bool false, .bool false, .bool false, .bool false, .bool false, .bool false, .bool false, .bool false, .bool false, .bool false, .bool false, .bool false, .bool false, .bool false, .bool false, .bool false, .bool false, .bool false, .bool false, .bool false, .bool false, .bool false, .bool false, .bool false, .bool false, .bool false, .bool false, .bool false, .bool false, .bool false, .bool false, .bool false, .bool false, .bool false, .bool false, .bool false, .bool false, .bool false, .bool false, .bool false, .bool false, .bool false, .bool false, .bool false, .bool false, .bool false, .bool false, .bool false, .bool false, .bool false, .bool false, .bool false, .bool false, .bool false, .bool false, .bool false, .bool false, .bool false, .bool false, .bool false, .bool false, .bool false, .bool false, .bool false, .bool false, .bool false, .bool false, .bool false, .bool false, .bool false, .bool false, .bool false, .bool false, .bool false, .bool false, .bool false, .bool false, .bool false, .bool false, .bool false, .bool false, .bool false, .bool false, .bool false, .bool false, .bool false, .bool false, .bool false, .bool false, .bool false, .bool false, .bool false, .bool false, .bool false, .bool false, .bool false, .bool false, .bool false, .bool false, .bool false, .bool false, .bool false, .bool false, .bool false, .bool false, .bool false, .bool false, .bool false, .bool false, .bool false, .bool false, .bool false, .bool false, .bool false, .bool false, .bool false, .bool false, .bool false, .bool false, .bool false, .bool false, .bool false, .bool false, .bool false, .bool false, .bool false, .bool false, .bool false, .bool false, .bool false, .bool false, .bool false, .bool false, .bool false, .bool false, .bool false, .bool false, .bool false, .bool false, .bool false, .bool false, .bool false, .bool false, .bool false, .bool false, .bool false, .bool false, .bool false, .bool false, .bool false, .bool false, .bool false, .bool false, .bool false, .bool false, .bool false, .bool false, .bool false, .bool false, .bool false, .bool false, .bool false, .bool false, .bool false, .bool false, .bool false, .bool false, .bool false, .bool false, .bool false, .bool false, .bool false, .bool false, .bool false, .bool false, .bool false, .bool false, .bool false, .bool false, .bool false, .bool false, .bool false, .bool false, .bool false, .bool false, .bool false, .bool false, .bool false, .bool false, .bool false, .bool false, .bool false, .bool false, .bool false, .bool false, .bool false, .bool false, .bool false, .bool false, .bool false, .bool false, .bool false, .bool false, .bool false, .bool false, .bool false, .bool false, .bool false, .bool false, .bool false, .bool false, .bool false, .bool false], none⟩, ⟨none, .st 256 (.t 6) (.t 30), none⟩, ⟨some 7, .mv (.t 31), none⟩]) (.seq (.reg [⟨some 32, .mv (.t 7), none⟩]) (.cond (.t 32) (.seq (.seq (.reg [⟨some 8, .mv (.c (.int .i64 0)), none⟩]) (.block 0 (.loop (.seq (.seq (.reg [⟨some 33, .mv (.t 8), none⟩, ⟨some 34, .mv (.t 0), none⟩, ⟨some 35, .lenS (.t 34), none⟩, ⟨some 36, .bin .lss (.t 33) (.t 35), none⟩]) (.cond (.t 36) .skip (.exit 0))) (.seq (.block 1 (.seq (.reg [⟨some 39, .mv (.t 0), none⟩, ⟨some 40, .mv (.t 8), none⟩, ⟨some 41, .idxS (.t 39) (.t 40), none⟩, ⟨some 42, .call (.c (.fn 95 [] [])) [.t 6, .t 41], none⟩]) (.cond (.t 42) (.seq (.reg [⟨some 43, .mv (.t 8), none⟩, ⟨some 4, .mv (.t 43), none⟩]) .ret) .skip))) (.reg [⟨some 37, .mv (.t 8), none⟩, ⟨some 38, .bin .add (.t 37) (.c (.int .i64 1)), none⟩, ⟨some 8, .mv (.t 38), none⟩])))))) (.seq (.reg [⟨some 4, .mv (.c (.int .i64 (-1))), none⟩]) .ret)) .skip))) .skip)) (.seq (.seq (.reg [⟨some 44, .mv (.t 0), none⟩, ⟨some 45, .rng (.t 44), none⟩]) (.block 2 (.loop (.seq (.reg [⟨some 46, .nxt (.t 45), none⟩, ⟨some 47, .ext (.t 46) 0, none⟩]) (.seq (.cond (.t 47) .skip (.exit 2)) (.block 3 (.seq (.reg [⟨some 48, .ext (.t 46) 1, none⟩, ⟨some 49, .ext (.t 46) 2, none⟩, ⟨some 9, .mv (.t 48), none⟩, ⟨some 10, .mv (.t 49), none⟩]) (.seq (.reg [⟨some 50, .mv (.t 1), none⟩, ⟨some 51, .mv (.t 10), none⟩, ⟨some 52, .pcall 93 [.t 50, .t 51], none⟩, ⟨some 53, .bin .geq (.t 52) (.c (.int .i64 0)), none⟩]) (.cond (.t 53) (.seq (.reg [⟨some 54, .mv (.t 9), none⟩, ⟨some 4, .mv (.t 54), none⟩]) .ret) .skip))))))))) (.seq (.reg [⟨some 4, .mv (.c (.int .i64 (-1))), none⟩]) .ret))))), [.tmp 4]⟩
theorem hc74 : toSF Tryz.prog {pure := [93, 94], mp := [45]} Tryz.f74 = some c74 := by kernel_rfl
theorem hn74 : (Tryz.f74.name == "runtime.NumGoroutine") = false := by kernel_rfl
set_option maxHeartbeats 1000000 in
set_option maxRecDepth 100000 in
theorem indexBl_short (s : List UInt8) (h8 : s.length ≤ 8) : PCalls (Pg G) 74 [.str s, .str blS] (aInt (ixBl s)) := fun h => by
  have cU := useSet_ok (G := G) s.length
  rw [decide_eq_false (by omega)] at cU
  have h5 : blS.length = 5 := rfl
  have hne : (blS == []) = false := rfl
  have hall : ∀ b ∈ blS, b.toNat < 128 := by decide
  obtain ⟨B, hB⟩ : ∃ B, blS = B := ⟨_, rfl⟩
  rw [hB] at h5 hne hall ⊢
  refine dcalls_of_vc Tryz.func74 hn74 hc74 (by rw [Tryz.ntmps74]; simp) (by rw [Tryz.ntmps74]; decide) ?_
  simp -dsimp -implicitDefEqProofs (disch := omega) only [VCA, Nat.reduceEqDiff, ↓reduceIte, c74]
  repeat' (first | ((with_reducible refine brC (fun _ => ?_) fun _ => ?_) <;> try (exfalso; omega)) | (with_reducible apply pcallE.of; · exact cU) | (with_reducible refine And.intro ?_ ?_; · omega) | simp -dsimp -implicitDefEqProofs (disch := omega) only [VCA, Nat.reduceEqDiff, ↓reduceIte, reduceCtorEq, exists_eq_right_right, h5, hne])
  · rename_i q; rw [q] at h5; cases h5
  intro r hr
  have g := fstI (q := fun i => blankI (bt s i)) (n := s.length) (a := 0) (Nat.zero_le _)
  refine LoopVC.intro (fun m e h' => ∃ p : Nat, p ≤ s.length ∧ m = s.length - p ∧ e 1 = .str B ∧ e 45 = .ptr r 0 0 ∧ h' = upd h r (some (itO s p)) ∧ ∀ i, i < p → blankI (bt s i) = false) s.length
    (by exact ⟨0, by omega, by omega, rfl, rfl, rfl, fun i hi => by omega⟩) ?_
  rintro m e h' ⟨p, hp, rfl, e1, e45, rfl, hno⟩
  have hit : upd h r (some (itO s p)) r = some (itO s p) := upd_same _ _ _
  repeat' (first | ((with_reducible refine brC (fun _ => ?_) fun _ => ?_) <;> try (exfalso; omega)) | (with_reducible refine And.intro ?_ ?_; · omega) | simp -dsimp -implicitDefEqProofs (disch := omega) only [VCA, Nat.reduceEqDiff, Nat.reduceAdd, Nat.reduceLT, ↓reduceIte, exists_eq_right_right, e45])
  refine ⟨_, _, rfl, fun hlt => ?_, fun hge => ?_⟩
  · have hq := runeAt_is s p hlt
    have hcn := runeAt_cont s p
    obtain ⟨q, hqq⟩ : ∃ q, runeAt s p = q := ⟨_, rfl⟩
    rw [hqq] at hq hcn
    have hq31 : q.1 < 2147483648 := by
      have : (Utf8.decode ⟨s.toArray⟩ p).1 < 2147483648 := by
        unfold Utf8.decode
        simp only [Utf8.runeError]
        (repeat' split) <;> (simp only) <;> omega
      have e : Utf8.decode ⟨s.toArray⟩ p = q := hqq
      rwa [e] at this
    have cI := indexRune_ok (G := G) B q.1 hq31 (by omega) hall
    have h0 : 0 ≤ bt s p := by unfold bt; omega
    have hbl : ixR B q.1 = ixR B q.1 := rfl
    have hit2 : (blankI (bt s p) = true → 0 ≤ ixR B q.1) ∧ (blankI (bt s p) = false → ixR B q.1 < 0) := by
      unfold ixR
      by_cases hl : bt s p < 128
      · have e1 : q.1 = (bt s p).toNat := by rw [hq.1 hl]
        rw [if_pos (by omega)]
        have e2 : bt s p = ((UInt8.ofNat q.1).toNat : Int) := by
          have : (UInt8.ofNat q.1).toNat = q.1 := by simp; omega
          rw [this]; omega
        rw [e2, ← blS_is, hB]
        refine ⟨fun hc => idxB_some (by simpa using hc), fun hc => ?_⟩
        rw [idxB_none (by simpa using hc)]; omega
      · have : 128 ≤ q.1 := by
          rcases hq.2.1 (by omega) with h3 | h3
          · rw [h3]; decide
          · exact h3.2
        rw [if_neg (by omega), blankI_ge (by omega)]
        exact ⟨fun hc => absurd hc (by simp), fun _ => by decide⟩
    cases hb : blankI (bt s p) with
    | true =>
      have h3 : decide (0 ≤ ixR B q.1) = true := decide_eq_true (hit2.1 hb)
      have hs : ixBl s = p := by
        have : stopB s = p := FirstIs.eq ⟨Nat.zero_le _, hp, fun _ => hb, fun j _ hj => hno j hj⟩
        unfold ixBl; rw [this, if_pos hlt]
      rw [hs]
      repeat' (first | ((with_reducible refine brC (fun _ => ?_) fun _ => ?_) <;> try (exfalso; omega)) | (with_reducible apply pcallE.of; · exact cI) | (with_reducible refine And.intro ?_ ?_; · omega) | simp -dsimp -implicitDefEqProofs (disch := omega) only [VCA, Nat.reduceEqDiff, ↓reduceIte, exists_eq_right, e1, hqq, h3])
      all_goals first | exact (Sub.refl _).upd hr | exact ⟨(Sub.refl _).upd hr, rfl⟩ | trace_state
    | false =>
      have h3 : decide (0 ≤ ixR B q.1) = false := decide_eq_false (by have := hit2.2 hb; omega)
      repeat' (first | ((with_reducible refine brC (fun _ => ?_) fun _ => ?_) <;> try (exfalso; omega)) | (with_reducible apply pcallE.of; · exact cI) | (with_reducible refine And.intro ?_ ?_; · omega) | simp -dsimp -implicitDefEqProofs (disch := omega) only [VCA, Nat.reduceEqDiff, ↓reduceIte, e1, e45, hqq, h3])
      refine ⟨_, by omega, p + q.2, by omega, rfl, rfl, fun i hi => ?_⟩
      by_cases h4 : i < p
      · exact hno i h4
      · by_cases h5 : i = p
        · rw [h5]; exact hb
        · exact blankI_ge (hcn i (by omega) hi)
  · have hs : ixBl s = -1 := by
      have : stopB s = s.length := FirstIs.eq ⟨Nat.zero_le _, Nat.le_refl _, fun h => absurd h (Nat.lt_irrefl _), fun j _ hj => hno j (by omega)⟩
      unfold ixBl; rw [this, if_neg (Nat.lt_irrefl _)]
    rw [hs]
    repeat' (first | ((with_reducible refine brC (fun _ => ?_) fun _ => ?_) <;> try (exfalso; omega)) | (with_reducible refine And.intro ?_ ?_; · omega) | simp -dsimp -implicitDefEqProofs (disch := omega) only [VCA])
    all_goals first | exact (Sub.refl _).upd hr | exact ⟨(Sub.refl _).upd hr, rfl⟩ | trace_state
theorem indexBl_long (s : List UInt8) (h8 : 8 < s.length) (hs : s.length < 4294967281) : PCalls (Pg G) 74 [.str s, .str blS] (aInt (ixBl s)) := by
  refine ofBelow ⟨_, Tryz.func74, by kernel_rfl, by kernel_rfl⟩ fun g w vs GR V => ?_
  obtain ⟨u, v, rfl, hu, hv⟩ := V.two_inv
  rw [hu.str_inv', hv.str_inv']
  have g := fstI (q := fun i => blankI (bt s i)) (n := s.length) (a := 0) (Nat.zero_le _)
  have no : ∀ k, k ≤ stopB s → Lib.NoAny s blS k := fun k hk j b hj hb => by
    have := g.no j (Nat.zero_le _) (by unfold stopB at hk; omega)
    have hbt : bt s j = b.toNat := by unfold bt; rw [List.getD_eq_getElem?_getD, hb]; rfl
    rw [blS_is, ← hbt]; exact this
  have e : Lib.indexAny s blS = ixBl s := by
    unfold ixBl
    by_cases hl : stopB s < s.length
    · rw [if_pos hl]
      have hb := g.hit hl
      refine Lib.indexAny_hit (no _ (Nat.le_refl _)) (List.getElem?_eq_getElem hl) ?_
      rw [blS_is]
      have hbt : bt s (stopB s) = (s[stopB s]).toNat := by unfold bt; rw [List.getD_eq_getElem?_getD, List.getElem?_eq_getElem hl]; rfl
      rw [← hbt]; exact hb
    · rw [if_neg hl]
      have := g.le
      exact Lib.indexAny_none (no _ (by unfold stopB at hl ⊢; omega))
  refine (Tryz.strings_IndexAny_long (zero_of_info (n := 256) (by kernel_rfl)).1 ⟨⟨s⟩⟩ ⟨⟨blS⟩⟩ w (by decide) h8 hs (by decide) (fun j b hb => ?_)).mono fun e' w' ⟨he, hw⟩ => ⟨_, he, ?_, fun g w => ?_⟩
  · have : b ∈ blS := List.mem_of_getElem? hb
    have hall : ∀ b ∈ blS, b.toNat < 128 := by decide
    exact hall b this
  · rw [hw]
    exact ((RowKit.Below.refl w.heap.size w).alloc (Nat.le_refl _) _).alloc (by simp) _
  · show VRel g w (.int .i64 (Lib.indexAny s blS)) _
    rw [e]; exact .int _ _
theorem indexBl_ok (s : List UInt8) (hs : s.length < 4294967281) : PCalls (Pg G) 74 [.str s, .str blS] (aInt (ixBl s)) := by
  by_cases h8 : s.length ≤ 8
  · exact indexBl_short s h8
  · exact indexBl_long s (by omega) hs
end Go.Proofs.K
end
section
set_option linter.unusedSimpArgs false
set_option linter.unusedVariables false
namespace Go.Proofs.K
open Go Go.Sim Go.Proofs
variable {G : Glob}
theorem hasPre_iff {s p : List UInt8} : hasPre s p = true ↔ p.length ≤ s.length ∧ ∀ j, j < p.length → bt s j = bt p j := by
  unfold hasPre
  rw [Bool.and_eq_true, decide_eq_true_eq, beq_iff_eq]
  refine and_congr_right fun hl => ⟨fun h j hj => ?_, fun h => ?_⟩
  · unfold bt
    rw [List.getD_eq_getElem?_getD, List.getD_eq_getElem?_getD]
    conv => rhs; rw [← h]
    rw [List.getElem?_take, if_pos hj]
  · apply List.ext_getElem
    · rw [List.length_take]; omega
    · intro j h1 h2
      have := h j h2
      unfold bt at this
      rw [List.getD_eq_getElem?_getD, List.getD_eq_getElem?_getD, List.getElem?_eq_getElem (by omega), List.getElem?_eq_getElem h2] at this
      rw [List.getElem_take]
      exact bt_inj this
theorem pre_stand {s w : List UInt8} (hw : noLet w = true) {a : Nat} (ha : a ≤ s.length) : hasPre (s.drop a) w = standB s a w := by
  rw [Bool.eq_iff_iff, stand_iff, hasPre_iff, List.length_drop]
  constructor
  · rintro ⟨h1, h2⟩
    refine ⟨by omega, fun j hj => ?_⟩
    have := h2 j hj
    rw [bt_drop] at this
    have e := low_noLet (b := bt s (a + j)) (noLet_at hw hj)
    rw [Bool.eq_iff_iff, beq_iff_eq, beq_iff_eq] at e
    exact e.2 this
  · rintro ⟨h1, h2⟩
    refine ⟨by omega, fun j hj => ?_⟩
    rw [bt_drop]
    have e := low_noLet (b := bt s (a + j)) (noLet_at hw hj)
    rw [Bool.eq_iff_iff, beq_iff_eq, beq_iff_eq] at e
    exact e.1 (h2 j hj)
theorem first_shift {q : Nat → Bool} {b n : Nat} : firstM q (b + n) b = b + firstM (fun i => q (b + i)) n 0 := by
  have g := fstI (q := fun i => q (b + i)) (n := n) (a := 0) (Nat.zero_le _)
  refine FirstIs.eq ⟨by omega, by have := g.le; omega, fun hl => g.hit (by omega), fun j h1 h2 => ?_⟩
  have := g.no (j - b) (by omega) (by omega)
  rwa [show b + (j - b) = j by omega] at this
theorem nameCut_ok (s : List UInt8) (a u : Nat) (ha : a ≤ u) (hu : u ≤ s.length) :
    (let n := (seg s a u).drop (firstM (fun i => notBlank (bt (seg s a u) i)) (seg s a u).length 0)
     n.take (firstM (fun i => blankI (bt n i)) n.length 0)) =
      seg s (firstM (fun i => notBlank (bt s i)) u a) (firstM (fun i => blankI (bt s i)) u (firstM (fun i => notBlank (bt s i)) u a)) := by
  have l1 := seg_len (s := s) (a := a) hu
  have e1 : firstM (fun i => notBlank (bt s i)) u a = a + firstM (fun i => notBlank (bt (seg s a u) i)) (seg s a u).length 0 := by
    have := first_shift (q := fun i => notBlank (bt s i)) (b := a) (n := u - a)
    rw [show a + (u - a) = u by omega] at this
    rw [this, l1]
    congr 1
    exact first_congr (Nat.zero_le _) fun j _ hj => by rw [bt_seg (by omega)]
  have g := fstI (q := fun i => notBlank (bt (seg s a u) i)) (n := (seg s a u).length) (a := 0) (Nat.zero_le _)
  generalize firstM (fun i => notBlank (bt (seg s a u) i)) (seg s a u).length 0 = k at *
  have hk := g.le
  simp only
  have en : (seg s a u).drop k = seg s (a + k) u := by unfold seg; rw [List.drop_drop]
  rw [e1, en]
  have l2 := seg_len (s := s) (a := a + k) hu
  have e2 : firstM (fun i => blankI (bt s i)) u (a + k) = (a + k) + firstM (fun i => blankI (bt (seg s (a + k) u) i)) (seg s (a + k) u).length 0 := by
    have := first_shift (q := fun i => blankI (bt s i)) (b := a + k) (n := u - (a + k))
    rw [show a + k + (u - (a + k)) = u by omega] at this
    rw [this, l2]
    congr 1
    exact first_congr (Nat.zero_le _) fun j _ hj => by rw [bt_seg (by omega)]
  have g2 := fstI (q := fun i => blankI (bt (seg s (a + k) u) i)) (n := (seg s (a + k) u).length) (a := 0) (Nat.zero_le _)
  rw [e2]
  generalize firstM (fun i => blankI (bt (seg s (a + k) u) i)) (seg s (a + k) u).length 0 = f at *
  have hf := g2.le
  unfold seg
  rw [List.take_drop, List.take_take]
  congr 2
  omega
def skipB (s : List UInt8) : Nat := firstM (fun i => notBlank (bt s i)) s.length 0
theorem trimBlank_ok (s : List UInt8) : PCalls (Pg G) 73 [.str s, .str blS] (.str (s.drop (skipB s))) := by
  refine ofBelow ⟨_, Tryz.func73, by kernel_rfl, by kernel_rfl⟩ fun g w vs GR V => ?_
  obtain ⟨u, v, rfl, hu, hv⟩ := V.two_inv
  rw [hu.str_inv', hv.str_inv']
  refine (Any.strings_TrimLeft_laid Tryz.lays161 (by kernel_rfl) ⟨⟨s⟩⟩ ⟨⟨blS⟩⟩ w (by decide) (fun j b hb => ?_)).mono fun e w' ⟨he, hw⟩ => ⟨_, he, hw, fun g w => ?_⟩
  · have : b ∈ blS := List.mem_of_getElem? hb
    have hall : ∀ b ∈ blS, b.toNat < 128 := by decide
    exact hall b this
  · have gF := fstI (q := fun i => notBlank (bt s i)) (n := s.length) (a := 0) (Nat.zero_le _)
    have e : Lib.trimLeftS s blS = s.drop (skipB s) := Lib.trimLeftS_drop s blS (skipB s) gF.le (fun j b hj hb => by
        have := gF.no j (Nat.zero_le _) hj
        have hbt : bt s j = b.toNat := by unfold bt; rw [List.getD_eq_getElem?_getD, hb]; rfl
        rw [blS_is, ← hbt]
        unfold notBlank at this
        simpa using this) (fun b hb => by
        have hl := (List.getElem?_eq_some_iff.1 hb).1
        have : notBlank (bt s (skipB s)) = true := gF.hit hl
        have hbt : bt s (skipB s) = b.toNat := by unfold bt; rw [List.getD_eq_getElem?_getD, hb]; rfl
        rw [blS_is, ← hbt]
        unfold notBlank at this
        simpa using this)
    show VRel g w (.string ⟨(Lib.trimLeftS s blS).toArray⟩) _
    rw [e]; exact VRel.str_mk g w _
theorem up_far {s : List UInt8} {a : Nat} (h : standB s a [60, 33, 100, 111, 99, 116, 121, 112, 101] = true) : upM s a [62] = upM s (a + 9) [62] := by
  obtain ⟨h1, h2⟩ := stand_iff.1 h
  have hl : a + 9 ≤ s.length := h1
  unfold upM
  have g := fstI (q := fun i => standB s i [62]) (n := s.length) (a := a + 9) hl
  refine FirstIs.eq ⟨by have := g.ge; omega, g.le, g.hit, fun j h3 h4 => ?_⟩
  by_cases h5 : a + 9 ≤ j
  · exact g.no j h5 h4
  · have := h2 (j - a) (by show j - a < 9; omega)
    rw [show a + (j - a) = j by omega] at this
    rw [stand_one s 62 (by decide) j (by omega)]
    rw [beq_eq_false_iff_ne]
    intro hq
    rw [hq] at this
    have hw : ∀ i, i < 9 → bt [60, 33, 100, 111, 99, 116, 121, 112, 101] i ≠ 62 := by decide
    exact hw (j - a) (by omega) this.symm
theorem S_fin {h hA : Heap} {rb r2 : Nat} {s : List UInt8} {v : Int} {b en : Nat} {out : AVal} {x : AObj} {o : Option AObj} (hv : v = b) (SA : Sub (upd h rb (some x)) hA) (h0 : h r2 = none) (hne : r2 ≠ rb) :
    Sub (upd h rb (some (rdO s b en out))) (upd (upd hA rb (some ⟨Tr, 4, [[.str s, .int .i64 v, aInt en, out]]⟩)) r2 o) := by
  subst hv; exact S_new (S_put SA) h0 hne
def c57 : SFun := ⟨.seq (.reg [⟨some 2, .new 43 7 [.int .i64 0, .str [], .emp, .str [], .bool false, .int .i64 0, .int .i64 0], none⟩, ⟨some 3, .mv (.c (.bool false)), none⟩]) (.seq (.dreg [(⟨some 10, .mv (.t 0), none⟩, none), (⟨some 11, .fldA 0 (.t 10), none⟩, none), (⟨some 12, .fldA 0 (.t 11), none⟩, none), (⟨some 13, .ld 1 false (.t 12), none⟩, none), (⟨some 14, .mv (.t 0), none⟩, none), (⟨some 15, .fldA 0 (.t 14), none⟩, none), (⟨some 16, .fldA 1 (.t 15), none⟩, none), (⟨some 17, .ld 1 false (.t 16), none⟩, none), (⟨some 18, .slS (.t 13) (some (.t 17)) none, none⟩, none), (⟨some 4, .mv (.t 18), none⟩, none)]) (.seq (.block 0 (.seq (.reg [⟨some 20, .mv (.t 4), none⟩, ⟨some 21, .pcall 46 [.t 20, .c (.str [60, 33, 45, 45])], none⟩, ⟨some 19, .mv (.t 21), none⟩]) (.cond (.t 19) (.seq (.reg [⟨some 22, .mv (.t 0), none⟩, ⟨some 23, .fldA 0 (.t 22), none⟩, ⟨some 24, .fldA 1 (.t 23), none⟩, ⟨some 25, .ld 1 false (.t 24), none⟩, ⟨some 26, .bin .add (.t 25) (.c (.int .i64 4)), none⟩, ⟨some 27, .fldA 0 (.t 22), none⟩, ⟨some 28, .fldA 1 (.t 27), none⟩, ⟨none, .st 1 (.t 28) (.t 26), none⟩]) (.seq (.seq (.reg [⟨some 29, .bldF 9 1 [.c (.str [62]), .c (.str [45, 62])], none⟩, ⟨some 30, .len (.t 29), none⟩, ⟨some 31, .mv (.c (.int .i64 0)), none⟩]) (.block 1 (.loop (.seq (.reg [⟨some 32, .bin .lss (.t 31) (.t 30), none⟩]) (.seq (.cond (.t 32) .skip (.exit 1)) (.seq (.block 2 (.seq (.reg [⟨some 33, .idxA 1 (.t 29) (.t 31), none⟩, ⟨some 34, .ld 1 false (.t 33), none⟩, ⟨some 6, .mv (.t 34), none⟩]) (.seq (.dreg [(⟨some 35, .mv (.t 0), none⟩, none), (⟨some 36, .fldA 0 (.t 35), none⟩, none), (⟨some 37, .fldA 0 (.t 36), none⟩, none), (⟨some 38, .ld 1 false (.t 37), none⟩, none), (⟨some 39, .mv (.t 0), none⟩, none), (⟨some 40, .fldA 0 (.t 39), none⟩, none), (⟨some 41, .fldA 1 (.t 40), none⟩, none), (⟨some 42, .ld 1 false (.t 41), none⟩, none), (⟨some 43, .slS (.t 38) (some (.t 42)) none, none⟩, none), (⟨some 44, .mv (.t 6), none⟩, none), (⟨some 45, .pcall 46 [.t 43, .t 44], none⟩, none)]) (.cond (.t 45) (.seq (.reg [⟨some 46, .mv (.t 0), none⟩, ⟨some 47, .fldA 0 (.t 46), none⟩, ⟨some 48, .fldA 1 (.t 47), none⟩, ⟨some 49, .ld 1 false (.t 48), none⟩, ⟨some 50, .mv (.t 6), none⟩, ⟨some 51, .lenS (.t 50), none⟩, ⟨some 52, .bin .add (.t 49) (.t 51), none⟩, ⟨some 53, .fldA 0 (.t 46), none⟩, ⟨some 54, .fldA 1 (.t 53), none⟩, ⟨none, .st 1 (.t 54) (.t 52), none⟩]) (.seq (.reg [⟨some 55, .bld [.int .i64 0, .str [], .emp, .str [], .bool false, .int .i64 0, .int .i64 0] [(0, (1, (.c (.int .i64 4))))], none⟩, ⟨none, .st 7 (.t 2) (.t 55), none⟩, ⟨some 3, .mv (.c (.bool true)), none⟩]) .ret)) .skip)))) (.reg [⟨some 56, .bin .add (.t 31) (.c (.int .i64 1)), none⟩, ⟨some 31, .mv (.t 56), none⟩]))))))) (.seq (.reg [⟨some 57, .mv (.t 0), none⟩, ⟨some 58, .call (.c (.fn 58 [] [])) [.t 57, .c (.str [45, 45, 62])], none⟩, ⟨some 59, .ext (.t 58) 0, none⟩, ⟨some 60, .ext (.t 58) 1, none⟩, ⟨none, .st 7 (.t 2) (.t 59), none⟩, ⟨some 3, .mv (.t 60), none⟩]) .ret))) (.seq (.reg [⟨some 62, .mv (.t 4), none⟩, ⟨some 63, .lenS (.t 62), none⟩, ⟨some 64, .bin .geq (.t 63) (.c (.int .i64 9)), none⟩, ⟨some 65, .mv (.t 64), none⟩, ⟨some 66, .mv (.t 4), some (65, true)⟩, ⟨some 67, .slS (.t 66) none (some (.c (.int .i64 9))), some (65, true)⟩, ⟨some 68, .pcall 67 [.t 67, .c (.str [60, 33, 100, 111, 99, 116, 121, 112, 101])], some (65, true)⟩, ⟨some 69, .pick (.t 65) (.t 68) (.c (.bool false)), none⟩, ⟨some 61, .mv (.t 69), none⟩]) (.cond (.t 61) (.seq (.reg [⟨some 70, .mv (.t 0), none⟩, ⟨some 71, .fldA 0 (.t 70), none⟩, ⟨some 72, .fldA 1 (.t 71), none⟩, ⟨some 73, .ld 1 false (.t 72), none⟩, ⟨some 74, .bin .add (.t 73) (.c (.int .i64 9)), none⟩, ⟨some 75, .fldA 0 (.t 70), none⟩, ⟨some 76, .fldA 1 (.t 75), none⟩, ⟨none, .st 1 (.t 76) (.t 74), none⟩]) (.seq (.reg [⟨some 78, .mv (.t 0), none⟩, ⟨some 79, .call (.c (.fn 72 [] [])) [.t 78, .c (.str [62])], none⟩, ⟨some 77, .mv (.t 79), none⟩, ⟨some 80, .ext (.t 77) 0, none⟩, ⟨some 81, .ext (.t 77) 1, none⟩, ⟨some 7, .mv (.t 80), none⟩, ⟨some 8, .mv (.t 81), none⟩]) (.seq (.reg [⟨some 82, .mv (.t 7), none⟩, ⟨some 83, .pcall 73 [.t 82, .c (.str [32, 9, 10, 12, 13])], none⟩, ⟨some 7, .mv (.t 83), none⟩]) (.seq (.seq (.reg [⟨some 84, .mv (.t 7), none⟩, ⟨some 85, .pcall 74 [.t 84, .c (.str [32, 9, 10, 12, 13])], none⟩, ⟨some 9, .mv (.t 85), none⟩]) (.seq (.reg [⟨some 86, .mv (.t 9), none⟩, ⟨some 87, .bin .geq (.t 86) (.c (.int .i64 0)), none⟩]) (.cond (.t 87) (.reg [⟨some 88, .mv (.t 7), none⟩, ⟨some 89, .mv (.t 9), none⟩, ⟨some 90, .slS (.t 88) none (some (.t 89)), none⟩, ⟨some 7, .mv (.t 90), none⟩]) .skip))) (.seq (.reg [⟨some 91, .mv (.t 7), none⟩, ⟨some 92, .pcall 48 [.t 91], none⟩, ⟨some 93, .bld [.int .i64 0, .str [], .emp, .str [], .bool false, .int .i64 0, .int .i64 0] [(0, (1, (.c (.int .i64 5)))), (1, (1, (.t 92)))], none⟩, ⟨some 94, .mv (.t 8), none⟩, ⟨none, .st 7 (.t 2) (.t 93), none⟩, ⟨some 3, .mv (.t 94), none⟩]) .ret))))) .skip))))) (.seq (.reg [⟨some 95, .mv (.t 0), none⟩, ⟨some 96, .fldA 0 (.t 95), none⟩, ⟨some 97, .fldA 1 (.t 96), none⟩, ⟨some 98, .ld 1 false (.t 97), none⟩, ⟨some 99, .bin .add (.t 98) (.c (.int .i64 2)), none⟩, ⟨some 100, .fldA 0 (.t 95), none⟩, ⟨some 101, .fldA 1 (.t 100), none⟩, ⟨none, .st 1 (.t 101) (.t 99), none⟩]) (.seq (.reg [⟨some 102, .mv (.t 0), none⟩, ⟨some 103, .call (.c (.fn 58 [] [])) [.t 102, .c (.str [62])], none⟩, ⟨some 104, .ext (.t 103) 0, none⟩, ⟨some 105, .ext (.t 103) 1, none⟩, ⟨none, .st 7 (.t 2) (.t 104), none⟩, ⟨some 3, .mv (.t 105), none⟩]) .ret)))), [.cell 2 7 true, .tmp 3]⟩
theorem hc57 : toSF Tryz.prog {pure := [46, 67, 73, 74, 48]} Tryz.f57 = some c57 := by kernel_rfl
theorem hn57 : (Tryz.f57.name == "runtime.NumGoroutine") = false := by kernel_rfl
set_option maxHeartbeats 2000000 in
theorem declared_ok (hG : MaxLenOK G) (hE : EqF G) (s : List UInt8) : DeclC G s := fun h rb a en out hr hk ha hs => by
  refine DCalls.wkRes (K0 := fun r h' => r = .tup [.agg (tokR (declM s a).1), .bool (declM s a).2.1] ∧ Sub (upd h rb (some (rdO s (declM s a).2.2 en out))) h' ∧ (declM s a).2.2 ≤ s.length) ?_ (fun r h' ⟨e, S, hl⟩ => ⟨_, by rw [e]; exact tokR_wk2 (by unfold declM; (repeat' split) <;> rfl), rfl, S, hl⟩)
  obtain ⟨hb60, ha1, _⟩ := kind_is (s := s) (a := a) (by rw [hk]; decide)
  have hr' := hr
  unfold rdO at hr'
  have cP := hasPre_ok (G := G) (s.drop a) [60, 33, 45, 45] (by rw [List.length_drop]; omega) (by decide)
  rw [pre_stand (by decide) (by omega)] at cP
  unfold declM
  cases h4 : standB s a [60, 33, 45, 45] with
  | true =>
    rw [h4] at cP
    rw [if_pos rfl]
    have hl4 : a + 4 ≤ s.length := (stand_iff.1 h4).1
    refine dcalls_of_vc Tryz.func57 hn57 hc57 (by rw [Tryz.ntmps57]; simp) (by rw [Tryz.ntmps57]; decide) ?_
    simp -dsimp -implicitDefEqProofs (disch := omega) only [VCA, Nat.reduceEqDiff, Nat.reduceAdd, ↓reduceIte, reduceCtorEq, rsOf, rootsOf, rdO, rootL, c57, hr']
    intro r2 hr2
    have m1 : ¬ rb = r2 := fun q => by rw [← q, hr] at hr2; cases hr2
    have m2 : ¬ r2 = rb := fun q => m1 q.symm
    have td : List.drop a (List.take s.length s) = s.drop a := by rw [List.take_length]
    obtain ⟨hA, hhA⟩ : ∃ hA, upd (upd h r2 (some ⟨Tt, 7, [[aInt 0, .str [], .emp, .str [], .bool false, aInt 0, aInt 0]]⟩)) rb (some (rdO s (a + 4) en out)) = hA := ⟨_, rfl⟩
    have SA : Sub (upd h rb (some (rdO s (a + 4) en out))) hA := by
      rw [← hhA]; exact S_put (x := rdO s a en out) (by rw [upd_id hr]; exact (Sub.refl h).upd hr2)
    have gA := has_at SA
    have gA' := gA
    unfold rdO at gA'
    have zA : hA r2 = some ⟨Tt, 7, [[aInt 0, .str [], .emp, .str [], .bool false, aInt 0, aInt 0]]⟩ := by rw [← hhA, upd_ne _ _ m2, upd_same]
    repeat' (first | ((with_reducible refine brC (fun _ => ?_) fun _ => ?_) <;> try (exfalso; omega)) | (with_reducible apply pcallE.of; · exact cP) | (with_reducible refine And.intro ?_ ?_; · omega) | simp -dsimp -implicitDefEqProofs (disch := omega) only [VCA, Nat.reduceEqDiff, Nat.reduceAdd, Nat.reduceLT, Nat.reduceLeDiff, ↓reduceIte, reduceCtorEq, okParts, setAt, exists_eq_left', hr', m1])
    rw [rdO_is (v := (a : Int) + 4) (b := a + 4) (by omega), hhA]
    obtain ⟨ZZ, hZ⟩ : ∃ Z, ([[.str [62]], [.str [45, 62]]] : List (List AVal)) = Z := ⟨_, rfl⟩
    have z0 : ZZ.getD 0 [] = [.str [62]] := by rw [← hZ]; rfl
    have z1 : ZZ.getD 1 [] = [.str [45, 62]] := by rw [← hZ]; rfl
    have zl : ZZ.length = 2 := by rw [← hZ]; rfl
    have tq : List.drop (a + 4) (List.take s.length s) = s.drop (a + 4) := by rw [List.take_length]
    have t4 : ((a : Int) + 4).toNat = a + 4 := by omega
    have c1 := hasPre_ok (G := G) (s.drop (a + 4)) [62] (by rw [List.length_drop]; omega) (by decide)
    have c2 := hasPre_ok (G := G) (s.drop (a + 4)) [45, 62] (by rw [List.length_drop]; omega) (by decide)
    rw [pre_stand (by decide) (by omega)] at c1 c2
    refine LoopVC.intro (fun m e h' => ∃ i : Nat, i ≤ 2 ∧ m = 2 - i ∧ e 0 = .vp rb 0 ∧ e 2 = .vp r2 0 ∧ e 29 = .slc ZZ ∧ e 30 = aInt 2 ∧ e 31 = aInt i ∧ h' = hA ∧ (0 < i → standB s (a + 4) [62] = false) ∧ (1 < i → standB s (a + 4) [45, 62] = false)) 2
      (by
        refine ⟨0, by omega, by omega, rfl, rfl, ?_, ?_, rfl, rfl, fun h => by omega, fun h => by omega⟩
        · rw [← hZ]; rfl
        · first | rfl | (rw [← hZ]; rfl)) ?_
    rintro m e h' ⟨i, hi, rfl, e0, e2, e29, e30, e31, rfl, n1, n2⟩
    have hi3 : i = 0 ∨ i = 1 ∨ i = 2 := by omega
    rcases hi3 with rfl | rfl | rfl
    · have k0 : (((0 : Nat) : Int)).toNat = 0 := rfl
      cases hb : standB s (a + 4) [62] with
      | true =>
        rw [hb] at c1
        have hl5 : a + 4 + 1 ≤ s.length := (stand_iff.1 hb).1
        repeat' (first | ((with_reducible refine brC (fun _ => ?_) fun _ => ?_) <;> try (exfalso; omega)) | (with_reducible apply pcallE.of; · exact c1) | (with_reducible refine And.intro ?_ ?_; · omega) | simp -dsimp -implicitDefEqProofs (disch := omega) only [VCA, Nat.reduceEqDiff, Nat.reduceAdd, Nat.reduceLT, Nat.reduceLeDiff, ↓reduceIte, reduceCtorEq, rsOf, rootsOf, fillA, okFill, setAt, exists_eq_left', rootL, e0, e2, e29, e30, e31, zl, z0, k0, gA', zA, m2])
        exact ⟨_, Sub.refl _, rfl, S_fin (by omega) SA hr2 m2, by omega⟩
      | false =>
        rw [hb] at c1
        repeat' (first | ((with_reducible refine brC (fun _ => ?_) fun _ => ?_) <;> try (exfalso; omega)) | (with_reducible apply pcallE.of; · exact c1) | (with_reducible refine And.intro ?_ ?_; · omega) | simp -dsimp -implicitDefEqProofs (disch := omega) only [VCA, Nat.reduceEqDiff, Nat.reduceAdd, Nat.reduceLT, Nat.reduceLeDiff, ↓reduceIte, reduceCtorEq, rsOf, rootsOf, implies_true, exists_eq_left', rootL, e0, e2, e29, e30, e31, zl, z0, k0, gA'])
        refine ⟨1, by omega, 1, by omega, by omega, ?_⟩
        first | (intro h; omega) | exact ⟨rfl, fun h => by omega⟩ | (simp [hb]; done) | trace_state
    · have k0 : (((1 : Nat) : Int)).toNat = 1 := rfl
      have hb1 := n1 (by omega)
      cases hb : standB s (a + 4) [45, 62] with
      | true =>
        rw [hb] at c2
        have hl5 : a + 4 + 2 ≤ s.length := (stand_iff.1 hb).1
        repeat' (first | ((with_reducible refine brC (fun _ => ?_) fun _ => ?_) <;> try (exfalso; omega)) | (with_reducible apply pcallE.of; · exact c2) | (with_reducible refine And.intro ?_ ?_; · omega) | simp -dsimp -implicitDefEqProofs (disch := omega) only [VCA, Nat.reduceEqDiff, Nat.reduceAdd, Nat.reduceSub, Nat.reduceLT, Nat.reduceLeDiff, ↓reduceIte, reduceCtorEq, rsOf, rootsOf, fillA, okFill, setAt, implies_true, exists_eq_left', rootL, e0, e2, e29, e30, e31, zl, z1, k0, gA', zA, m2, hb1])
        exact ⟨_, Sub.refl _, rfl, S_fin (by omega) SA hr2 m2, by omega⟩
      | false =>
        rw [hb] at c2
        repeat' (first | ((with_reducible refine brC (fun _ => ?_) fun _ => ?_) <;> try (exfalso; omega)) | (with_reducible apply pcallE.of; · exact c2) | (with_reducible refine And.intro ?_ ?_; · omega) | simp -dsimp -implicitDefEqProofs (disch := omega) only [VCA, Nat.reduceEqDiff, Nat.reduceAdd, Nat.reduceSub, Nat.reduceLT, Nat.reduceLeDiff, ↓reduceIte, reduceCtorEq, rsOf, rootsOf, implies_true, exists_eq_left', rootL, e0, e2, e29, e30, e31, zl, z1, k0, gA'])
        refine ⟨0, by omega, 2, by omega, by omega, ?_⟩
        first | (simp [hb1]; done) | trace_state
    · have hb1 := n1 (by omega)
      have hb2 := n2 (by omega)
      rw [hb1, hb2, if_neg (by simp), if_neg (by simp)]
      have hcl := com_le (s := s) (w := [45, 45, 62]) (a := a + 4) hl4
      have cC := tokComment_raw (G := G) hG (w := [45, 45, 62]) gA hl4 (by omega) (by decide) (by simp)
      repeat' (first | ((with_reducible refine brC (fun _ => ?_) fun _ => ?_) <;> try (exfalso; omega)) | ((refine DCalls.of cC ?_; rintro _ hB ⟨rfl, SB⟩)) | (with_reducible refine And.intro ?_ ?_; · omega) | simp -dsimp -implicitDefEqProofs (disch := omega) only [VCA, Nat.reduceEqDiff, Nat.reduceAdd, Nat.reduceSub, Nat.reduceLT, ↓reduceIte, reduceCtorEq, setAt, implies_true, exists_eq_left', e0, e2, e30, e31])
      have zB : hB r2 = some ⟨Tt, 7, [[aInt 0, .str [], .emp, .str [], .bool false, aInt 0, aInt 0]]⟩ := SB _ _ (by rw [upd_ne _ _ m2]; exact zA)
      obtain ⟨⟨t, b, c⟩, ht⟩ : ∃ t, comM s (a + 4) [45, 45, 62] = t := ⟨_, rfl⟩
      rw [ht] at SB hcl ⊢
      unfold tokR
      repeat' (first | ((with_reducible refine brC (fun _ => ?_) fun _ => ?_) <;> try (exfalso; omega)) | (with_reducible refine And.intro ?_ ?_; · omega) | simp -dsimp -implicitDefEqProofs (disch := omega) only [VCA, Nat.reduceAdd, Nat.reduceLT, exists_eq_left', zB])
      first | exact ⟨_, Sub.refl _, rfl, S_new (S_next SA SB) hr2 m2, hcl⟩ | exact ⟨_, Sub.refl _, S_new (S_next SA SB) hr2 m2, hcl⟩
  | false =>
    rw [h4] at cP
    rw [if_neg (by simp)]
    have hld : (s.drop a).length = s.length - a := List.length_drop ..
    have t9 : Int.toNat 9 = 9 := rfl
    cases h9 : standB s a [60, 33, 100, 111, 99, 116, 121, 112, 101] with
    | true =>
      rw [if_pos rfl]
      have hl9 : a + 9 ≤ s.length := (stand_iff.1 h9).1
      have cE := hE (seg s a (a + 9)) [60, 33, 100, 111, 99, 116, 121, 112, 101] (by rw [seg_len (by omega)]; simp only [List.length_cons, List.length_nil]; omega) (by decide) (by have := seg_le s a (a + 9); omega)
      have hse : standB (seg s a (a + 9)) 0 [60, 33, 100, 111, 99, 116, 121, 112, 101] = standB s a [60, 33, 100, 111, 99, 116, 121, 112, 101] := stand_seg (w := [60, 33, 100, 111, 99, 116, 121, 112, 101]) hl9
      rw [hse, h9] at cE
      have tE : List.drop 0 (List.take 9 (s.drop a)) = seg s a (a + 9) := by unfold seg; rw [List.drop_zero, List.take_drop, Nat.add_comm]
      have tE2 : List.take 9 (s.drop a) = seg s a (a + 9) := by unfold seg; rw [List.take_drop, Nat.add_comm]
      have hup := up_far h9
      have hul := up_le (s := s) (w := [62]) (a := a + 9) hl9
      rw [hup]
      obtain ⟨u, hu⟩ : ∃ u, upM s (a + 9) [62] = u := ⟨_, rfl⟩
      rw [hu] at hul ⊢
      have hnc := nameCut_ok s (a + 9) u hul.1 hul.2.1
      have cT := trimBlank_ok (G := G) (seg s (a + 9) u)
      obtain ⟨n1, hn1⟩ : ∃ n1, (seg s (a + 9) u).drop (skipB (seg s (a + 9) u)) = n1 := ⟨_, rfl⟩
      have hn1l : n1.length ≤ s.length := by rw [← hn1, List.length_drop]; have := seg_le s (a + 9) u; omega
      have hnc : n1.take (stopB n1) = seg s (firstM (fun i => notBlank (bt s i)) u (a + 9)) (firstM (fun i => blankI (bt s i)) u (firstM (fun i => notBlank (bt s i)) u (a + 9))) := by rw [← hn1]; exact hnc
      rw [← hnc]
      rw [hn1] at cT
      have cI := indexBl_ok (G := G) n1 (by omega)
      have g1 : stopB n1 ≤ n1.length := (fstI (Nat.zero_le _)).le
      refine dcalls_of_vc Tryz.func57 hn57 hc57 (by rw [Tryz.ntmps57]; simp) (by rw [Tryz.ntmps57]; decide) ?_
      simp -dsimp -implicitDefEqProofs (disch := omega) only [VCA, Nat.reduceEqDiff, Nat.reduceAdd, ↓reduceIte, reduceCtorEq, rsOf, rootsOf, rdO, rootL, c57, hr']
      intro r2 hr2
      have m1 : ¬ rb = r2 := fun q => by rw [← q, hr] at hr2; cases hr2
      have m2 : ¬ r2 = rb := fun q => m1 q.symm
      have td : List.drop a (List.take s.length s) = s.drop a := by rw [List.take_length]
      obtain ⟨hA, hhA⟩ : ∃ hA, upd (upd h r2 (some ⟨Tt, 7, [[aInt 0, .str [], .emp, .str [], .bool false, aInt 0, aInt 0]]⟩)) rb (some (rdO s (a + 9) en out)) = hA := ⟨_, rfl⟩
      have SA : Sub (upd h rb (some (rdO s (a + 9) en out))) hA := by
        rw [← hhA]; exact S_put (x := rdO s a en out) (by rw [upd_id hr]; exact (Sub.refl h).upd hr2)
      have gA := has_at SA
      have gA' := gA
      unfold rdO at gA'
      have zA : hA r2 = some ⟨Tt, 7, [[aInt 0, .str [], .emp, .str [], .bool false, aInt 0, aInt 0]]⟩ := by rw [← hhA, upd_ne _ _ m2, upd_same]
      have cP9 := past_ok (G := G) hG (w := [62]) gA hl9 (by omega) (by decide) (by simp)
      rw [hu] at cP9
      repeat' (first | ((with_reducible refine brC (fun _ => ?_) fun _ => ?_) <;> try (exfalso; omega)) | (with_reducible apply pcallE.of; · exact cP) | (with_reducible apply pcallE.of; · exact cE) | (with_reducible refine And.intro ?_ ?_; · omega) | simp -dsimp -implicitDefEqProofs (disch := omega) only [↓vcOps_sp 65, VCA, Nat.reduceEqDiff, Nat.reduceAdd, Nat.reduceLT, Nat.reduceLeDiff, ↓reduceIte, reduceCtorEq, setAt, exists_eq_left', hr', m1, hld, t9, tE])
      rw [rdO_is (v := (a : Int) + 9) (b := a + 9) (by omega), hhA]
      refine DCalls.of cP9 ?_
      rintro _ hB ⟨rfl, SB⟩
      have zB : hB r2 = some ⟨Tt, 7, [[aInt 0, .str [], .emp, .str [], .bool false, aInt 0, aInt 0]]⟩ := SB _ _ (by rw [upd_ne _ _ m2]; exact zA)
      have cN := tokName_ok (G := G) (n1.take (stopB n1)) (by rw [List.length_take]; omega)
      unfold blS at cT cI
      unfold ixBl at cI
      have b1 : (if u < s.length then u + 1 else s.length) ≤ s.length := by split <;> omega
      by_cases hst : stopB n1 < n1.length
      · rw [if_pos hst] at cI
        repeat' (first | ((with_reducible refine brC (fun _ => ?_) fun _ => ?_) <;> try (exfalso; omega)) | (with_reducible apply pcallE.of; · exact cT) | (with_reducible apply pcallE.of; · exact cI) | (with_reducible apply pcallE.of; · exact cN) | (with_reducible refine And.intro ?_ ?_; · omega) | simp -dsimp -implicitDefEqProofs (disch := omega) only [VCA, Nat.reduceEqDiff, Nat.reduceAdd, Nat.reduceLT, Nat.reduceLeDiff, ↓reduceIte, fillA, okFill, setAt, exists_eq_left', zB])
        exact ⟨_, Sub.refl _, rfl, S_new (S_next SA SB) hr2 m2, b1⟩
      · rw [if_neg hst] at cI
        rw [List.take_of_length_le (by omega)] at cN ⊢
        repeat' (first | ((with_reducible refine brC (fun _ => ?_) fun _ => ?_) <;> try (exfalso; omega)) | (with_reducible apply pcallE.of; · exact cT) | (with_reducible apply pcallE.of; · exact cI) | (with_reducible apply pcallE.of; · exact cN) | (with_reducible refine And.intro ?_ ?_; · omega) | simp -dsimp -implicitDefEqProofs (disch := omega) only [VCA, Nat.reduceEqDiff, Nat.reduceAdd, Nat.reduceLT, Nat.reduceLeDiff, ↓reduceIte, fillA, okFill, setAt, exists_eq_left', zB])
        exact ⟨_, Sub.refl _, rfl, S_new (S_next SA SB) hr2 m2, b1⟩
    | false =>
      rw [if_neg (by simp)]
      have hcl := com_le (s := s) (w := [62]) (a := a + 2) (by omega)
      refine dcalls_of_vc Tryz.func57 hn57 hc57 (by rw [Tryz.ntmps57]; simp) (by rw [Tryz.ntmps57]; decide) ?_
      simp -dsimp -implicitDefEqProofs (disch := omega) only [VCA, Nat.reduceEqDiff, Nat.reduceAdd, ↓reduceIte, reduceCtorEq, rsOf, rootsOf, rdO, rootL, c57, hr']
      intro r2 hr2
      have m1 : ¬ rb = r2 := fun q => by rw [← q, hr] at hr2; cases hr2
      have m2 : ¬ r2 = rb := fun q => m1 q.symm
      have td : List.drop a (List.take s.length s) = s.drop a := by rw [List.take_length]
      obtain ⟨hA, hhA⟩ : ∃ hA, upd (upd h r2 (some ⟨Tt, 7, [[aInt 0, .str [], .emp, .str [], .bool false, aInt 0, aInt 0]]⟩)) rb (some (rdO s (a + 2) en out)) = hA := ⟨_, rfl⟩
      have SA : Sub (upd h rb (some (rdO s (a + 2) en out))) hA := by
        rw [← hhA]; exact S_put (x := rdO s a en out) (by rw [upd_id hr]; exact (Sub.refl h).upd hr2)
      have gA := has_at SA
      have gA' := gA
      unfold rdO at gA'
      have zA : hA r2 = some ⟨Tt, 7, [[aInt 0, .str [], .emp, .str [], .bool false, aInt 0, aInt 0]]⟩ := by rw [← hhA, upd_ne _ _ m2, upd_same]
      have cC := tokComment_raw (G := G) hG (w := [62]) gA (by omega) (by omega) (by decide) (by simp)
      by_cases hl9 : 9 ≤ s.length - a
      · have cE := hE (seg s a (a + 9)) [60, 33, 100, 111, 99, 116, 121, 112, 101] (by rw [seg_len (by omega)]; simp only [List.length_cons, List.length_nil]; omega) (by decide) (by have := seg_le s a (a + 9); omega)
        have hse : standB (seg s a (a + 9)) 0 [60, 33, 100, 111, 99, 116, 121, 112, 101] = standB s a [60, 33, 100, 111, 99, 116, 121, 112, 101] := stand_seg (w := [60, 33, 100, 111, 99, 116, 121, 112, 101]) (by show a + 9 ≤ s.length; omega)
        rw [hse, h9] at cE
        have tE : List.drop 0 (List.take 9 (s.drop a)) = seg s a (a + 9) := by unfold seg; rw [List.drop_zero, List.take_drop, Nat.add_comm]
        repeat' (first | ((with_reducible refine brC (fun _ => ?_) fun _ => ?_) <;> try (exfalso; omega)) | (with_reducible apply pcallE.of; · exact cP) | (with_reducible apply pcallE.of; · exact cE) | (with_reducible refine And.intro ?_ ?_; · omega) | simp -dsimp -implicitDefEqProofs (disch := omega) only [↓vcOps_sp 65, VCA, Nat.reduceEqDiff, Nat.reduceAdd, Nat.reduceLT, Nat.reduceLeDiff, ↓reduceIte, reduceCtorEq, setAt, exists_eq_left', hr', m1, hld, t9, tE])
        rw [rdO_is (v := (a : Int) + 2) (b := a + 2) (by omega), hhA]
        refine DCalls.of cC ?_
        rintro _ hB ⟨rfl, SB⟩
        have zB : hB r2 = some ⟨Tt, 7, [[aInt 0, .str [], .emp, .str [], .bool false, aInt 0, aInt 0]]⟩ := SB _ _ (by rw [upd_ne _ _ m2]; exact zA)
        obtain ⟨⟨t, b, c⟩, ht⟩ : ∃ t, comM s (a + 2) [62] = t := ⟨_, rfl⟩
        rw [ht] at SB hcl ⊢
        unfold tokR
        repeat' (first | ((with_reducible refine brC (fun _ => ?_) fun _ => ?_) <;> try (exfalso; omega)) | (with_reducible refine And.intro ?_ ?_; · omega) | simp -dsimp -implicitDefEqProofs (disch := omega) only [VCA, Nat.reduceEqDiff, Nat.reduceAdd, Nat.reduceLT, ↓reduceIte, setAt, exists_eq_left', zB])
        first | exact ⟨_, Sub.refl _, rfl, S_new (S_next SA SB) hr2 m2, hcl⟩ | exact ⟨_, Sub.refl _, S_new (S_next SA SB) hr2 m2, hcl⟩
      · repeat' (first | ((with_reducible refine brC (fun _ => ?_) fun _ => ?_) <;> try (exfalso; omega)) | (with_reducible apply pcallE.of; · exact cP) | (with_reducible refine And.intro ?_ ?_; · omega) | simp -dsimp -implicitDefEqProofs (disch := omega) only [↓vcOps_sp 65, VCA, Nat.reduceEqDiff, Nat.reduceAdd, Nat.reduceLT, Nat.reduceLeDiff, ↓reduceIte, reduceCtorEq, setAt, exists_eq_left', hr', m1, hld])
        rw [rdO_is (v := (a : Int) + 2) (b := a + 2) (by omega), hhA]
        refine DCalls.of cC ?_
        rintro _ hB ⟨rfl, SB⟩
        have zB : hB r2 = some ⟨Tt, 7, [[aInt 0, .str [], .emp, .str [], .bool false, aInt 0, aInt 0]]⟩ := SB _ _ (by rw [upd_ne _ _ m2]; exact zA)
        obtain ⟨⟨t, b, c⟩, ht⟩ : ∃ t, comM s (a + 2) [62] = t := ⟨_, rfl⟩
        rw [ht] at SB hcl ⊢
        unfold tokR
        repeat' (first | ((with_reducible refine brC (fun _ => ?_) fun _ => ?_) <;> try (exfalso; omega)) | (with_reducible refine And.intro ?_ ?_; · omega) | simp -dsimp -implicitDefEqProofs (disch := omega) only [VCA, Nat.reduceEqDiff, Nat.reduceAdd, Nat.reduceLT, ↓reduceIte, setAt, exists_eq_left', zB])
        first | exact ⟨_, Sub.refl _, rfl, S_new (S_next SA SB) hr2 m2, hcl⟩ | exact ⟨_, Sub.refl _, S_new (S_next SA SB) hr2 m2, hcl⟩
end Go.Proofs.K
end
section
set_option linter.unusedSimpArgs false
set_option linter.unusedVariables false
namespace Go.Proofs.K
open Go Go.Sim Go.Proofs
variable {G : Glob}
theorem up_step {s : List UInt8} {a : Nat} (h : a < s.length) (hb : bt s a ≠ 62) : upM s a [62] = upM s (a + 1) [62] := by
  unfold upM
  exact first_on h (by rw [stand_one s 62 (by decide) a h]; rw [beq_eq_false_iff_ne]; exact hb)
theorem com_far {s : List UInt8} {a f : Nat} (h1 : a < f) (h2 : f ≤ a + 2) (h3 : f ≤ s.length) (h4 : ∀ j, a ≤ j → j < f → bt s j ≠ 62) : upM s a [62] = upM s f [62] := by
  have q1 := up_step (s := s) (a := a) (by omega) (h4 a (by omega) h1)
  by_cases h : f = a + 1
  · rw [q1, h]
  · have q2 := up_step (s := s) (a := a + 1) (by omega) (h4 (a + 1) (by omega) (by omega))
    rw [q1, q2, show f = a + 1 + 1 by omega]
def c21 : SFun := ⟨.seq (.reg [⟨some 4, .new 43 7 [.int .i64 0, .str [], .emp, .str [], .bool false, .int .i64 0, .int .i64 0], none⟩, ⟨some 5, .mv (.c (.int .i64 0)), none⟩, ⟨some 6, .mv (.c (.bool false)), none⟩]) (.seq (.seq (.reg [⟨some 16, .mv (.t 0), none⟩, ⟨some 17, .mv (.t 1), none⟩, ⟨some 18, .pcall 14 [.t 16, .t 17, .c (.str [60, 33, 45, 45])], none⟩]) (.cond (.t 18) (.seq (.seq (.reg [⟨some 19, .mv (.t 0), none⟩, ⟨some 20, .mv (.t 1), none⟩, ⟨some 21, .bin .add (.t 20) (.c (.int .i64 4)), none⟩, ⟨some 22, .pcall 14 [.t 19, .t 21, .c (.str [62])], none⟩]) (.cond (.t 22) (.seq (.reg [⟨some 23, .bld [.int .i64 0, .str [], .emp, .str [], .bool false, .int .i64 0, .int .i64 0] [(0, (1, (.c (.int .i64 4))))], none⟩, ⟨some 24, .mv (.t 1), none⟩, ⟨some 25, .bin .add (.t 24) (.c (.int .i64 5)), none⟩, ⟨none, .st 7 (.t 4) (.t 23), none⟩, ⟨some 5, .mv (.t 25), none⟩, ⟨some 6, .mv (.c (.bool true)), none⟩]) .ret) .skip)) (.seq (.seq (.reg [⟨some 26, .mv (.t 0), none⟩, ⟨some 27, .mv (.t 1), none⟩, ⟨some 28, .bin .add (.t 27) (.c (.int .i64 4)), none⟩, ⟨some 29, .pcall 14 [.t 26, .t 28, .c (.str [45, 62])], none⟩]) (.cond (.t 29) (.seq (.reg [⟨some 30, .bld [.int .i64 0, .str [], .emp, .str [], .bool false, .int .i64 0, .int .i64 0] [(0, (1, (.c (.int .i64 4))))], none⟩, ⟨some 31, .mv (.t 1), none⟩, ⟨some 32, .bin .add (.t 31) (.c (.int .i64 6)), none⟩, ⟨none, .st 7 (.t 4) (.t 30), none⟩, ⟨some 5, .mv (.t 32), none⟩, ⟨some 6, .mv (.c (.bool true)), none⟩]) .ret) .skip)) (.seq (.reg [⟨some 34, .mv (.t 0), none⟩, ⟨some 35, .mv (.t 1), none⟩, ⟨some 36, .bin .add (.t 35) (.c (.int .i64 4)), none⟩, ⟨some 37, .pcall 41 [.t 34, .t 36, .c (.str [45, 45, 62])], none⟩, ⟨some 33, .mv (.t 37), none⟩, ⟨some 38, .ext (.t 33) 0, none⟩, ⟨some 39, .ext (.t 33) 1, none⟩, ⟨some 7, .mv (.t 38), none⟩, ⟨some 8, .mv (.t 39), none⟩]) (.seq (.reg [⟨some 40, .mv (.t 0), none⟩, ⟨some 41, .mv (.t 1), none⟩, ⟨some 42, .bin .add (.t 41) (.c (.int .i64 4)), none⟩, ⟨some 43, .mv (.t 7), none⟩, ⟨some 44, .slS (.t 40) (some (.t 42)) (some (.t 43)), none⟩, ⟨some 45, .bld [.int .i64 0, .str [], .emp, .str [], .bool false, .int .i64 0, .int .i64 0] [(0, (1, (.c (.int .i64 4)))), (3, (1, (.t 44)))], none⟩, ⟨some 9, .new 43 7 [.int .i64 0, .str [], .emp, .str [], .bool false, .int .i64 0, .int .i64 0], none⟩, ⟨none, .st 7 (.t 9) (.t 45), none⟩]) (.seq (.seq (.reg [⟨some 46, .mv (.t 8), none⟩]) (.cond (.t 46) (.reg [⟨some 47, .mv (.t 7), none⟩, ⟨some 48, .bin .add (.t 47) (.c (.int .i64 3)), none⟩, ⟨some 7, .mv (.t 48), none⟩]) .skip)) (.seq (.reg [⟨some 49, .ld 7 true (.t 9), none⟩, ⟨some 50, .mv (.t 7), none⟩, ⟨some 51, .mv (.t 8), none⟩, ⟨none, .st 7 (.t 4) (.t 49), none⟩, ⟨some 5, .mv (.t 50), none⟩, ⟨some 6, .mv (.t 51), none⟩]) .ret)))))) .skip)) (.seq (.reg [⟨some 53, .mv (.t 0), none⟩, ⟨some 54, .mv (.t 1), none⟩, ⟨some 55, .pcall 41 [.t 53, .t 54, .c (.str [62])], none⟩, ⟨some 52, .mv (.t 55), none⟩, ⟨some 56, .ext (.t 52) 0, none⟩, ⟨some 57, .ext (.t 52) 1, none⟩, ⟨some 10, .mv (.t 56), none⟩, ⟨some 11, .mv (.t 57), none⟩]) (.seq (.reg [⟨some 58, .mv (.t 10), none⟩, ⟨some 12, .mv (.t 58), none⟩]) (.seq (.seq (.reg [⟨some 59, .mv (.t 11), none⟩]) (.cond (.t 59) (.reg [⟨some 60, .mv (.t 12), none⟩, ⟨some 61, .bin .add (.t 60) (.c (.int .i64 1)), none⟩, ⟨some 12, .mv (.t 61), none⟩]) .skip)) (.seq (.seq (.reg [⟨some 62, .mv (.t 0), none⟩, ⟨some 63, .mv (.t 1), none⟩, ⟨some 64, .pcall 14 [.t 62, .t 63, .c (.str [60, 33, 100, 111, 99, 116, 121, 112, 101])], none⟩]) (.cond (.t 64) (.seq (.reg [⟨some 65, .mv (.t 1), none⟩, ⟨some 66, .bin .add (.t 65) (.c (.int .i64 9)), none⟩, ⟨some 13, .mv (.t 66), none⟩]) (.seq (.block 0 (.loop (.seq (.seq (.reg [⟨some 67, .mv (.t 13), none⟩, ⟨some 68, .mv (.t 10), none⟩, ⟨some 69, .bin .lss (.t 67) (.t 68), none⟩, ⟨some 70, .mv (.t 69), none⟩, ⟨some 71, .mv (.t 0), some (70, true)⟩, ⟨some 72, .mv (.t 13), some (70, true)⟩, ⟨some 73, .idxS (.t 71) (.t 72), some (70, true)⟩, ⟨some 74, .pcall 15 [.t 73], some (70, true)⟩, ⟨some 75, .pick (.t 70) (.t 74) (.c (.bool false)), none⟩]) (.cond (.t 75) .skip (.exit 0))) (.block 1 (.reg [⟨some 76, .mv (.t 13), none⟩, ⟨some 77, .bin .add (.t 76) (.c (.int .i64 1)), none⟩, ⟨some 13, .mv (.t 77), none⟩]))))) (.seq (.reg [⟨some 78, .mv (.t 13), none⟩, ⟨some 14, .mv (.t 78), none⟩]) (.seq (.block 2 (.loop (.seq (.seq (.reg [⟨some 79, .mv (.t 14), none⟩, ⟨some 80, .mv (.t 10), none⟩, ⟨some 81, .bin .lss (.t 79) (.t 80), none⟩, ⟨some 82, .mv (.t 81), none⟩, ⟨some 83, .mv (.t 0), some (82, true)⟩, ⟨some 84, .mv (.t 14), some (82, true)⟩, ⟨some 85, .idxS (.t 83) (.t 84), some (82, true)⟩, ⟨some 86, .pcall 15 [.t 85], some (82, true)⟩, ⟨some 87, .un .not (.t 86), some (82, true)⟩, ⟨some 88, .pick (.t 82) (.t 87) (.c (.bool false)), none⟩]) (.cond (.t 88) .skip (.exit 2))) (.block 3 (.reg [⟨some 89, .mv (.t 14), none⟩, ⟨some 90, .bin .add (.t 89) (.c (.int .i64 1)), none⟩, ⟨some 14, .mv (.t 90), none⟩]))))) (.seq (.reg [⟨some 91, .mv (.t 0), none⟩, ⟨some 92, .mv (.t 13), none⟩, ⟨some 93, .mv (.t 14), none⟩, ⟨some 94, .slS (.t 91) (some (.t 92)) (some (.t 93)), none⟩, ⟨some 95, .pcall 39 [.t 94], none⟩, ⟨some 96, .bld [.int .i64 0, .str [], .emp, .str [], .bool false, .int .i64 0, .int .i64 0] [(0, (1, (.c (.int .i64 5)))), (1, (1, (.t 95)))], none⟩, ⟨some 97, .mv (.t 12), none⟩, ⟨some 98, .mv (.t 11), none⟩, ⟨none, .st 7 (.t 4) (.t 96), none⟩, ⟨some 5, .mv (.t 97), none⟩, ⟨some 6, .mv (.t 98), none⟩]) .ret))))) .skip)) (.seq (.reg [⟨some 99, .mv (.t 1), none⟩, ⟨some 100, .bin .add (.t 99) (.c (.int .i64 2)), none⟩, ⟨some 15, .mv (.t 100), none⟩]) (.seq (.seq (.reg [⟨some 101, .mv (.t 0), none⟩, ⟨some 102, .mv (.t 1), none⟩, ⟨some 103, .bin .add (.t 102) (.c (.int .i64 1)), none⟩, ⟨some 104, .idxS (.t 101) (.t 103), none⟩, ⟨some 105, .bin .eql (.t 104) (.c (.int .u8 63)), none⟩]) (.cond (.t 105) (.reg [⟨some 106, .mv (.t 1), none⟩, ⟨some 107, .bin .add (.t 106) (.c (.int .i64 1)), none⟩, ⟨some 15, .mv (.t 107), none⟩]) .skip)) (.seq (.reg [⟨some 108, .mv (.t 0), none⟩, ⟨some 109, .mv (.t 15), none⟩, ⟨some 110, .mv (.t 10), none⟩, ⟨some 111, .slS (.t 108) (some (.t 109)) (some (.t 110)), none⟩, ⟨some 112, .bld [.int .i64 0, .str [], .emp, .str [], .bool false, .int .i64 0, .int .i64 0] [(0, (1, (.c (.int .i64 4)))), (3, (1, (.t 111)))], none⟩, ⟨some 113, .mv (.t 12), none⟩, ⟨some 114, .mv (.t 11), none⟩, ⟨none, .st 7 (.t 4) (.t 112), none⟩, ⟨some 5, .mv (.t 113), none⟩, ⟨some 6, .mv (.t 114), none⟩]) .ret)))))))), [.cell 4 7 true, .tmp 5, .tmp 6]⟩
theorem hc21 : toSF Tryz.prog {pure := [14, 41, 15, 39]} Tryz.f21 = some c21 := by kernel_rfl
theorem hn21 : (Tryz.f21.name == "runtime.NumGoroutine") = false := by kernel_rfl
def RDecK (q : HTok × Bool × Nat) (r : AVal) (h0 h' : Heap) : Prop := r = .tup [.agg (tokR q.1), aInt q.2.2, .bool q.2.1] ∧ Sub h0 h'
set_option maxHeartbeats 1000000 in
theorem refDeclC_raw {s : List UInt8} {a : Nat} (h : Heap) (h4 : standB s a [60, 33, 45, 45] = true) (hs : s.length ≤ 1000000) :
    DCalls (Pg G) 21 [.str s, aInt a] h fun r h' => RDecK (declM s a) r h h' := by
  have hl4 : a + 4 ≤ s.length := (stand_iff.1 h4).1
  have c0 := refStands_ok (G := G) s [60, 33, 45, 45] a (by omega) hs (by decide)
  have c1 : PCalls (Pg G) 14 [.str s, .int .i64 ((a : Int) + 4), .str [62]] (.bool (standB s (a + 4) [62])) := refStands_ok (G := G) s [62] (a + 4) (by omega) hs (by decide)
  have c2 : PCalls (Pg G) 14 [.str s, .int .i64 ((a : Int) + 4), .str [45, 62]] (.bool (standB s (a + 4) [45, 62])) := refStands_ok (G := G) s [45, 62] (a + 4) (by omega) hs (by decide)
  have c3 : PCalls (Pg G) 41 [.str s, .int .i64 ((a : Int) + 4), .str [45, 45, 62]] (.tup [aInt (upM s (a + 4) [45, 45, 62]), .bool (decide (upM s (a + 4) [45, 45, 62] < s.length))]) := refUp_ok (G := G) s [45, 45, 62] (a + 4) (by omega) hs (by decide)
  have hu := up_le (w := [45, 45, 62]) hl4
  unfold declM comM
  rw [h4, if_pos rfl]
  rw [h4] at c0
  obtain ⟨u, hu'⟩ : ∃ u, upM s (a + 4) [45, 45, 62] = u := ⟨_, rfl⟩
  rw [hu'] at c3 hu ⊢
  unfold RDecK tokR
  cases b1 : standB s (a + 4) [62] <;> rw [b1] at c1
  · cases b2 : standB s (a + 4) [45, 62] <;> rw [b2] at c2
    · rw [if_neg (by simp), if_neg (by simp)]
      by_cases hul : u < s.length
      · rw [decide_eq_true hul] at c3
        rw [if_pos hul, decide_eq_true hul]
        refine dcalls_of_vc Tryz.func21 hn21 hc21 (by rw [Tryz.ntmps21]; simp) (by rw [Tryz.ntmps21]; decide) ?_
        simp -dsimp -implicitDefEqProofs (disch := omega) only [VCA, Nat.reduceEqDiff, Nat.reduceAdd, ↓reduceIte, reduceCtorEq, c21]
        intro r4 hr4
        repeat' (first | ((with_reducible refine brC (fun _ => ?_) fun _ => ?_) <;> try (exfalso; omega)) | (with_reducible apply pcallE.of; · exact c0) | (with_reducible apply pcallE.of; · exact c1) | (with_reducible apply pcallE.of; · exact c2) | (with_reducible apply pcallE.of; · exact c3) | (with_reducible refine And.intro ?_ ?_; · omega) | simp -dsimp -implicitDefEqProofs (disch := omega) only [VCA, ↓upd_none, Nat.reduceEqDiff, Nat.reduceAdd, Nat.reduceLT, Nat.reduceLeDiff, ↓reduceIte, reduceCtorEq, fillA, okFill, setAt, ne_eq, exists_eq_left'])
        intro r9 hr9
        have m : ¬ r4 = r9 := fun q => hr9.1 q.symm
        repeat' (first | ((with_reducible refine brC (fun _ => ?_) fun _ => ?_) <;> try (exfalso; omega)) | (with_reducible refine And.intro ?_ ?_; · omega) | simp -dsimp -implicitDefEqProofs (disch := omega) only [VCA, Nat.reduceAdd, Nat.reduceLT, ↓reduceIte, exists_eq_left', m])
        exact ⟨_, Sub.refl _, rfl, (((Sub.refl h).upd hr4).upd hr9.2).upd hr4⟩
      · obtain rfl : u = s.length := by omega
        rw [decide_eq_false hul] at c3
        rw [if_neg hul, decide_eq_false hul]
        refine dcalls_of_vc Tryz.func21 hn21 hc21 (by rw [Tryz.ntmps21]; simp) (by rw [Tryz.ntmps21]; decide) ?_
        simp -dsimp -implicitDefEqProofs (disch := omega) only [VCA, Nat.reduceEqDiff, ↓reduceIte, reduceCtorEq, c21]
        intro r4 hr4
        repeat' (first | ((with_reducible refine brC (fun _ => ?_) fun _ => ?_) <;> try (exfalso; omega)) | (with_reducible apply pcallE.of; · exact c0) | (with_reducible apply pcallE.of; · exact c1) | (with_reducible apply pcallE.of; · exact c2) | (with_reducible apply pcallE.of; · exact c3) | (with_reducible refine And.intro ?_ ?_; · omega) | simp -dsimp -implicitDefEqProofs (disch := omega) only [VCA, ↓upd_none, Nat.reduceEqDiff, Nat.reduceAdd, Nat.reduceLT, Nat.reduceLeDiff, ↓reduceIte, reduceCtorEq, fillA, okFill, setAt, ne_eq, exists_eq_left'])
        intro r9 hr9
        have m : ¬ r4 = r9 := fun q => hr9.1 q.symm
        repeat' (first | ((with_reducible refine brC (fun _ => ?_) fun _ => ?_) <;> try (exfalso; omega)) | (with_reducible refine And.intro ?_ ?_; · omega) | simp -dsimp -implicitDefEqProofs (disch := omega) only [VCA, Nat.reduceAdd, Nat.reduceLT, ↓reduceIte, exists_eq_left', m])
        exact ⟨_, Sub.refl _, by rw [show seg s (a + 4) s.length = s.drop (a + 4) from seg_end (Nat.le_refl _)]; rfl, (((Sub.refl h).upd hr4).upd hr9.2).upd hr4⟩
    · rw [if_neg (by simp), if_pos rfl]
      refine dcalls_of_vc Tryz.func21 hn21 hc21 (by rw [Tryz.ntmps21]; simp) (by rw [Tryz.ntmps21]; decide) ?_
      simp -dsimp -implicitDefEqProofs (disch := omega) only [VCA, Nat.reduceEqDiff, ↓reduceIte, reduceCtorEq, c21]
      intro r4 hr4
      repeat' (first | ((with_reducible refine brC (fun _ => ?_) fun _ => ?_) <;> try (exfalso; omega)) | (with_reducible apply pcallE.of; · exact c0) | (with_reducible apply pcallE.of; · exact c1) | (with_reducible apply pcallE.of; · exact c2) | (with_reducible refine And.intro ?_ ?_; · omega) | simp -dsimp -implicitDefEqProofs (disch := omega) only [VCA, Nat.reduceEqDiff, Nat.reduceAdd, Nat.reduceLT, Nat.reduceLeDiff, ↓reduceIte, reduceCtorEq, fillA, okFill, setAt, exists_eq_left'])
      exact ⟨_, Sub.refl _, rfl, (Sub.refl h).upd hr4⟩
  · rw [if_pos rfl]
    refine dcalls_of_vc Tryz.func21 hn21 hc21 (by rw [Tryz.ntmps21]; simp) (by rw [Tryz.ntmps21]; decide) ?_
    simp -dsimp -implicitDefEqProofs (disch := omega) only [VCA, Nat.reduceEqDiff, ↓reduceIte, reduceCtorEq, c21]
    intro r4 hr4
    repeat' (first | ((with_reducible refine brC (fun _ => ?_) fun _ => ?_) <;> try (exfalso; omega)) | (with_reducible apply pcallE.of; · exact c0) | (with_reducible apply pcallE.of; · exact c1) | (with_reducible refine And.intro ?_ ?_; · omega) | simp -dsimp -implicitDefEqProofs (disch := omega) only [VCA, Nat.reduceEqDiff, Nat.reduceAdd, Nat.reduceLT, Nat.reduceLeDiff, ↓reduceIte, reduceCtorEq, fillA, okFill, setAt, exists_eq_left'])
    exact ⟨_, Sub.refl _, rfl, (Sub.refl h).upd hr4⟩
set_option maxHeartbeats 2000000 in
theorem refDeclD_raw {s : List UInt8} {a : Nat} (h : Heap) (h4 : standB s a [60, 33, 45, 45] = false) (h9 : standB s a [60, 33, 100, 111, 99, 116, 121, 112, 101] = true) (hs : s.length ≤ 1000000) :
    DCalls (Pg G) 21 [.str s, aInt a] h fun r h' => RDecK (declM s a) r h h' := by
  have hl9 : a + 9 ≤ s.length := (stand_iff.1 h9).1
  have c0 := refStands_ok (G := G) s [60, 33, 45, 45] a (by omega) hs (by decide)
  have c1 := refStands_ok (G := G) s [60, 33, 100, 111, 99, 116, 121, 112, 101] a (by omega) hs (by decide)
  have c3 := refUp_ok (G := G) s [62] a (by omega) hs (by decide)
  have hu := up_le (s := s) (w := [62]) (a := a + 9) hl9
  have hfar := up_far h9
  rw [← hfar] at hu
  unfold declM
  rw [h4] at c0
  rw [h9] at c1
  rw [h4, h9, if_neg (by simp), if_pos rfl]
  obtain ⟨u, hu'⟩ : ∃ u, upM s a [62] = u := ⟨_, rfl⟩
  rw [hu'] at c3 hu ⊢
  obtain ⟨f, hf⟩ : ∃ f, firstM (fun i => notBlank (bt s i)) u (a + 9) = f := ⟨_, rfl⟩
  obtain ⟨g, hg⟩ : ∃ g, firstM (fun i => blankI (bt s i)) u f = g := ⟨_, rfl⟩
  have Ff := fstI (q := fun i => notBlank (bt s i)) (n := u) (a := a + 9) hu.1
  have Fg := fstI (q := fun i => blankI (bt s i)) (n := u) (a := f) (by rw [← hf]; exact Ff.le)
  rw [hf] at Ff
  rw [hg] at Fg
  rw [hf, hg]
  have q1 := Ff.ge
  have q2 := Ff.le
  have q3 := Fg.ge
  have q4 := Fg.le
  have cN : PCalls (Pg G) 39 [.str ((s.take g).drop f)] (.str (nameM (seg s f g))) := refName_ok (G := G) (seg s f g) (by have := seg_le s f g; omega)
  obtain ⟨nm, hnm⟩ : ∃ n, nameM (seg s f g) = n := ⟨_, rfl⟩
  rw [hnm] at cN ⊢
  obtain ⟨B, hB⟩ : ∃ B : Nat, B = if u < s.length then u + 1 else s.length := ⟨_, rfl⟩
  rw [← hB]
  unfold RDecK tokR
  have hBv : (u < s.length ∧ B = u + 1) ∨ (¬ u < s.length ∧ B = u) := by
    by_cases hul : u < s.length
    · exact .inl ⟨hul, by rw [hB, if_pos hul]⟩
    · exact .inr ⟨hul, by rw [hB, if_neg hul]; omega⟩
  clear hB
  cases hok : decide (u < s.length) <;> rw [hok] at c3
  · obtain rfl : u = B := by have := of_decide_eq_false hok; omega
    refine dcalls_of_vc Tryz.func21 hn21 hc21 (by rw [Tryz.ntmps21]; simp) (by rw [Tryz.ntmps21]; decide) ?_
    simp -dsimp -implicitDefEqProofs (disch := omega) only [VCA, Nat.reduceEqDiff, ↓reduceIte, reduceCtorEq, c21]
    intro r4 hr4
    repeat' (first | ((with_reducible refine brC (fun _ => ?_) fun _ => ?_) <;> try (exfalso; omega)) | (with_reducible apply pcallE.of; · exact c0) | (with_reducible apply pcallE.of; · exact c3) | (with_reducible apply pcallE.of; · exact c1) | (with_reducible refine And.intro ?_ ?_; · omega) | simp -dsimp -implicitDefEqProofs (disch := omega) only [VCA, Nat.reduceEqDiff, Nat.reduceAdd, Nat.reduceLT, ↓reduceIte, reduceCtorEq])
    have S4 : ∀ o, Sub h (upd h r4 o) := fun o => (Sub.refl h).upd hr4
    refine loopT (fun x e' h' => x = .exit 0 ∧ h' = upd h r4 (some ⟨Tt, 7, [tz]⟩) ∧ e' 0 = .str s ∧ e' 4 = .vp r4 0 ∧ e' 10 = aInt u ∧ e' 11 = .bool false ∧ e' 12 = aInt u ∧ e' 13 = aInt f)
      (fun m e' h' => ∃ j : Nat, a + 9 ≤ j ∧ j ≤ f ∧ m = f - j ∧ h' = upd h r4 (some ⟨Tt, 7, [tz]⟩) ∧ e' 0 = .str s ∧ e' 4 = .vp r4 0 ∧ e' 10 = aInt u ∧ e' 11 = .bool false ∧ e' 12 = aInt u ∧ e' 13 = aInt j) (f - (a + 9))
      (by exact ⟨a + 9, by omega, q1, rfl, rfl, rfl, rfl, rfl, rfl, rfl, rfl⟩) ?_ ?_
    · rintro Q' hQ m e' h' ⟨j, hj0, hj, rfl, rfl, e0, e4, e10, e11, e12, e13⟩
      obtain ⟨b, hb⟩ : ∃ b, s.getD j 0 = b := ⟨_, rfl⟩
      have eb : bt s j = b.toNat := by unfold bt; rw [hb]
      have cB' := refBlank_ok (G := G) b
      by_cases hjf : j < f
      · have hno : notBlank (bt s j) = false := Ff.no j hj0 hjf
        have hb1 : blankI b.toNat = true := by rw [eb] at hno; unfold notBlank at hno; simpa using hno
        rw [hb1] at cB'
        have hd : decide ((j : Int) < (u : Int)) = true := decide_eq_true (by omega)
        repeat' (first | ((with_reducible refine brC (fun _ => ?_) fun _ => ?_) <;> try (exfalso; omega)) | (with_reducible apply pcallE.of; · exact cB') | (with_reducible refine And.intro ?_ ?_; · omega) | simp -dsimp -implicitDefEqProofs (disch := omega) only [↓vcOps_sp 70, VCA, Nat.reduceEqDiff, ↓reduceIte, reduceCtorEq, e0, e4, e10, e11, e12, e13, hd, hb])
        exact ⟨_, by omega, j + 1, by omega, by omega, rfl, by omega⟩
      · obtain rfl : j = f := by omega
        by_cases hju : j < u
        · have hy : notBlank (bt s j) = true := Ff.hit hju
          have hb1 : blankI b.toNat = false := by rw [eb] at hy; unfold notBlank at hy; simpa using hy
          rw [hb1] at cB'
          have hd : decide ((j : Int) < (u : Int)) = true := decide_eq_true (by omega)
          repeat' (first | ((with_reducible refine brC (fun _ => ?_) fun _ => ?_) <;> try (exfalso; omega)) | (with_reducible apply pcallE.of; · exact cB') | (with_reducible refine And.intro ?_ ?_; · omega) | simp -dsimp -implicitDefEqProofs (disch := omega) only [↓vcOps_sp 70, VCA, Nat.reduceEqDiff, ↓reduceIte, reduceCtorEq, e0, e10, e13, hd, hb])
          exact hQ _ _ _ ⟨rfl, rfl, e0, e4, e10, e11, e12, e13⟩
        · have hd : decide ((j : Int) < (u : Int)) = false := decide_eq_false (by omega)
          repeat' (first | ((with_reducible refine brC (fun _ => ?_) fun _ => ?_) <;> try (exfalso; omega)) | (with_reducible refine And.intro ?_ ?_; · omega) | simp -dsimp -implicitDefEqProofs (disch := omega) only [↓vcOps_sp 70, VCA, Nat.reduceEqDiff, ↓reduceIte, e10, e13, hd])
          exact hQ _ _ _ ⟨rfl, rfl, e0, e4, e10, e11, e12, e13⟩
    · rintro _ e' _ ⟨rfl, rfl, e0, e4, e10, e11, e12, e13⟩
      repeat' (first | ((with_reducible refine brC (fun _ => ?_) fun _ => ?_) <;> try (exfalso; omega)) | (with_reducible refine And.intro ?_ ?_; · omega) | simp -dsimp -implicitDefEqProofs (disch := omega) only [VCA, ↓reduceIte, e13])
      refine loopT (fun x e' h' => x = .exit 2 ∧ h' = upd h r4 (some ⟨Tt, 7, [tz]⟩) ∧ e' 0 = .str s ∧ e' 4 = .vp r4 0 ∧ e' 11 = .bool false ∧ e' 12 = aInt u ∧ e' 13 = aInt f ∧ e' 14 = aInt g)
        (fun m e' h' => ∃ j : Nat, f ≤ j ∧ j ≤ g ∧ m = g - j ∧ h' = upd h r4 (some ⟨Tt, 7, [tz]⟩) ∧ e' 0 = .str s ∧ e' 4 = .vp r4 0 ∧ e' 10 = aInt u ∧ e' 11 = .bool false ∧ e' 12 = aInt u ∧ e' 13 = aInt f ∧ e' 14 = aInt j) (g - f)
        (by exact ⟨f, by omega, q3, rfl, rfl, e0, e4, e10, e11, e12, e13, rfl⟩) ?_ ?_
      · rintro Q' hQ m e' h' ⟨j, hj0, hj, rfl, rfl, e0, e4, e10, e11, e12, e13, e14⟩
        obtain ⟨b, hb⟩ : ∃ b, s.getD j 0 = b := ⟨_, rfl⟩
        have eb : bt s j = b.toNat := by unfold bt; rw [hb]
        have cB' := refBlank_ok (G := G) b
        by_cases hjf : j < g
        · have hno : blankI (bt s j) = false := Fg.no j hj0 hjf
          rw [eb] at hno
          rw [hno] at cB'
          have hd : decide ((j : Int) < (u : Int)) = true := decide_eq_true (by omega)
          repeat' (first | ((with_reducible refine brC (fun _ => ?_) fun _ => ?_) <;> try (exfalso; omega)) | (with_reducible apply pcallE.of; · exact cB') | (with_reducible refine And.intro ?_ ?_; · omega) | simp -dsimp -implicitDefEqProofs (disch := omega) only [↓vcOps_sp 82, VCA, Nat.reduceEqDiff, ↓reduceIte, reduceCtorEq, e0, e4, e10, e11, e12, e13, e14, hd, hb])
          exact ⟨_, by omega, j + 1, by omega, by omega, rfl, by omega⟩
        · obtain rfl : j = g := by omega
          by_cases hju : j < u
          · have hy : blankI (bt s j) = true := Fg.hit hju
            rw [eb] at hy
            rw [hy] at cB'
            have hd : decide ((j : Int) < (u : Int)) = true := decide_eq_true (by omega)
            repeat' (first | ((with_reducible refine brC (fun _ => ?_) fun _ => ?_) <;> try (exfalso; omega)) | (with_reducible apply pcallE.of; · exact cB') | (with_reducible refine And.intro ?_ ?_; · omega) | simp -dsimp -implicitDefEqProofs (disch := omega) only [↓vcOps_sp 82, VCA, Nat.reduceEqDiff, ↓reduceIte, reduceCtorEq, e0, e10, e14, hd, hb])
            exact hQ _ _ _ ⟨rfl, rfl, e0, e4, e11, e12, e13, e14⟩
          · have hd : decide ((j : Int) < (u : Int)) = false := decide_eq_false (by omega)
            repeat' (first | ((with_reducible refine brC (fun _ => ?_) fun _ => ?_) <;> try (exfalso; omega)) | (with_reducible refine And.intro ?_ ?_; · omega) | simp -dsimp -implicitDefEqProofs (disch := omega) only [↓vcOps_sp 82, VCA, Nat.reduceEqDiff, ↓reduceIte, e10, e14, hd])
            exact hQ _ _ _ ⟨rfl, rfl, e0, e4, e11, e12, e13, e14⟩
      · rintro _ e' _ ⟨rfl, rfl, e0, e4, e11, e12, e13, e14⟩
        unfold tz
        repeat' (first | ((with_reducible refine brC (fun _ => ?_) fun _ => ?_) <;> try (exfalso; omega)) | (with_reducible apply pcallE.of; · exact cN) | (with_reducible refine And.intro ?_ ?_; · omega) | simp -dsimp -implicitDefEqProofs (disch := omega) only [VCA, Nat.reduceEqDiff, Nat.reduceAdd, Nat.reduceLT, Nat.reduceLeDiff, ↓reduceIte, fillA, okFill, setAt, exists_eq_left', e0, e4, e11, e12, e13, e14])
        first | exact ⟨_, Sub.refl _, rfl, S4 _⟩ | exact ⟨_, Sub.refl _, S4 _⟩
  · obtain rfl : B = u + 1 := by have := of_decide_eq_true hok; omega
    refine dcalls_of_vc Tryz.func21 hn21 hc21 (by rw [Tryz.ntmps21]; simp) (by rw [Tryz.ntmps21]; decide) ?_
    simp -dsimp -implicitDefEqProofs (disch := omega) only [VCA, Nat.reduceEqDiff, ↓reduceIte, reduceCtorEq, c21]
    intro r4 hr4
    repeat' (first | ((with_reducible refine brC (fun _ => ?_) fun _ => ?_) <;> try (exfalso; omega)) | (with_reducible apply pcallE.of; · exact c0) | (with_reducible apply pcallE.of; · exact c3) | (with_reducible apply pcallE.of; · exact c1) | (with_reducible refine And.intro ?_ ?_; · omega) | simp -dsimp -implicitDefEqProofs (disch := omega) only [VCA, Nat.reduceEqDiff, Nat.reduceAdd, Nat.reduceLT, ↓reduceIte, reduceCtorEq])
    have S4 : ∀ o, Sub h (upd h r4 o) := fun o => (Sub.refl h).upd hr4
    refine loopT (fun x e' h' => x = .exit 0 ∧ h' = upd h r4 (some ⟨Tt, 7, [tz]⟩) ∧ e' 0 = .str s ∧ e' 4 = .vp r4 0 ∧ e' 10 = aInt u ∧ e' 11 = .bool true ∧ e' 12 = aInt (u + 1 : Nat) ∧ e' 13 = aInt f)
      (fun m e' h' => ∃ j : Nat, a + 9 ≤ j ∧ j ≤ f ∧ m = f - j ∧ h' = upd h r4 (some ⟨Tt, 7, [tz]⟩) ∧ e' 0 = .str s ∧ e' 4 = .vp r4 0 ∧ e' 10 = aInt u ∧ e' 11 = .bool true ∧ e' 12 = aInt (u + 1 : Nat) ∧ e' 13 = aInt j) (f - (a + 9))
      (by exact ⟨a + 9, by omega, q1, rfl, rfl, rfl, rfl, rfl, rfl, rfl, rfl⟩) ?_ ?_
    · rintro Q' hQ m e' h' ⟨j, hj0, hj, rfl, rfl, e0, e4, e10, e11, e12, e13⟩
      obtain ⟨b, hb⟩ : ∃ b, s.getD j 0 = b := ⟨_, rfl⟩
      have eb : bt s j = b.toNat := by unfold bt; rw [hb]
      have cB' := refBlank_ok (G := G) b
      by_cases hjf : j < f
      · have hno : notBlank (bt s j) = false := Ff.no j hj0 hjf
        have hb1 : blankI b.toNat = true := by rw [eb] at hno; unfold notBlank at hno; simpa using hno
        rw [hb1] at cB'
        have hd : decide ((j : Int) < (u : Int)) = true := decide_eq_true (by omega)
        repeat' (first | ((with_reducible refine brC (fun _ => ?_) fun _ => ?_) <;> try (exfalso; omega)) | (with_reducible apply pcallE.of; · exact cB') | (with_reducible refine And.intro ?_ ?_; · omega) | simp -dsimp -implicitDefEqProofs (disch := omega) only [↓vcOps_sp 70, VCA, Nat.reduceEqDiff, ↓reduceIte, reduceCtorEq, e0, e4, e10, e11, e12, e13, hd, hb])
        exact ⟨_, by omega, j + 1, by omega, by omega, rfl, by omega⟩
      · obtain rfl : j = f := by omega
        by_cases hju : j < u
        · have hy : notBlank (bt s j) = true := Ff.hit hju
          have hb1 : blankI b.toNat = false := by rw [eb] at hy; unfold notBlank at hy; simpa using hy
          rw [hb1] at cB'
          have hd : decide ((j : Int) < (u : Int)) = true := decide_eq_true (by omega)
          repeat' (first | ((with_reducible refine brC (fun _ => ?_) fun _ => ?_) <;> try (exfalso; omega)) | (with_reducible apply pcallE.of; · exact cB') | (with_reducible refine And.intro ?_ ?_; · omega) | simp -dsimp -implicitDefEqProofs (disch := omega) only [↓vcOps_sp 70, VCA, Nat.reduceEqDiff, ↓reduceIte, reduceCtorEq, e0, e10, e13, hd, hb])
          exact hQ _ _ _ ⟨rfl, rfl, e0, e4, e10, e11, e12, e13⟩
        · have hd : decide ((j : Int) < (u : Int)) = false := decide_eq_false (by omega)
          repeat' (first | ((with_reducible refine brC (fun _ => ?_) fun _ => ?_) <;> try (exfalso; omega)) | (with_reducible refine And.intro ?_ ?_; · omega) | simp -dsimp -implicitDefEqProofs (disch := omega) only [↓vcOps_sp 70, VCA, Nat.reduceEqDiff, ↓reduceIte, e10, e13, hd])
          exact hQ _ _ _ ⟨rfl, rfl, e0, e4, e10, e11, e12, e13⟩
    · rintro _ e' _ ⟨rfl, rfl, e0, e4, e10, e11, e12, e13⟩
      repeat' (first | ((with_reducible refine brC (fun _ => ?_) fun _ => ?_) <;> try (exfalso; omega)) | (with_reducible refine And.intro ?_ ?_; · omega) | simp -dsimp -implicitDefEqProofs (disch := omega) only [VCA, ↓reduceIte, e13])
      refine loopT (fun x e' h' => x = .exit 2 ∧ h' = upd h r4 (some ⟨Tt, 7, [tz]⟩) ∧ e' 0 = .str s ∧ e' 4 = .vp r4 0 ∧ e' 11 = .bool true ∧ e' 12 = aInt (u + 1 : Nat) ∧ e' 13 = aInt f ∧ e' 14 = aInt g)
        (fun m e' h' => ∃ j : Nat, f ≤ j ∧ j ≤ g ∧ m = g - j ∧ h' = upd h r4 (some ⟨Tt, 7, [tz]⟩) ∧ e' 0 = .str s ∧ e' 4 = .vp r4 0 ∧ e' 10 = aInt u ∧ e' 11 = .bool true ∧ e' 12 = aInt (u + 1 : Nat) ∧ e' 13 = aInt f ∧ e' 14 = aInt j) (g - f)
        (by exact ⟨f, by omega, q3, rfl, rfl, e0, e4, e10, e11, e12, e13, rfl⟩) ?_ ?_
      · rintro Q' hQ m e' h' ⟨j, hj0, hj, rfl, rfl, e0, e4, e10, e11, e12, e13, e14⟩
        obtain ⟨b, hb⟩ : ∃ b, s.getD j 0 = b := ⟨_, rfl⟩
        have eb : bt s j = b.toNat := by unfold bt; rw [hb]
        have cB' := refBlank_ok (G := G) b
        by_cases hjf : j < g
        · have hno : blankI (bt s j) = false := Fg.no j hj0 hjf
          rw [eb] at hno
          rw [hno] at cB'
          have hd : decide ((j : Int) < (u : Int)) = true := decide_eq_true (by omega)
          repeat' (first | ((with_reducible refine brC (fun _ => ?_) fun _ => ?_) <;> try (exfalso; omega)) | (with_reducible apply pcallE.of; · exact cB') | (with_reducible refine And.intro ?_ ?_; · omega) | simp -dsimp -implicitDefEqProofs (disch := omega) only [↓vcOps_sp 82, VCA, Nat.reduceEqDiff, ↓reduceIte, reduceCtorEq, e0, e4, e10, e11, e12, e13, e14, hd, hb])
          exact ⟨_, by omega, j + 1, by omega, by omega, rfl, by omega⟩
        · obtain rfl : j = g := by omega
          by_cases hju : j < u
          · have hy : blankI (bt s j) = true := Fg.hit hju
            rw [eb] at hy
            rw [hy] at cB'
            have hd : decide ((j : Int) < (u : Int)) = true := decide_eq_true (by omega)
            repeat' (first | ((with_reducible refine brC (fun _ => ?_) fun _ => ?_) <;> try (exfalso; omega)) | (with_reducible apply pcallE.of; · exact cB') | (with_reducible refine And.intro ?_ ?_; · omega) | simp -dsimp -implicitDefEqProofs (disch := omega) only [↓vcOps_sp 82, VCA, Nat.reduceEqDiff, ↓reduceIte, reduceCtorEq, e0, e10, e14, hd, hb])
            exact hQ _ _ _ ⟨rfl, rfl, e0, e4, e11, e12, e13, e14⟩
          · have hd : decide ((j : Int) < (u : Int)) = false := decide_eq_false (by omega)
            repeat' (first | ((with_reducible refine brC (fun _ => ?_) fun _ => ?_) <;> try (exfalso; omega)) | (with_reducible refine And.intro ?_ ?_; · omega) | simp -dsimp -implicitDefEqProofs (disch := omega) only [↓vcOps_sp 82, VCA, Nat.reduceEqDiff, ↓reduceIte, e10, e14, hd])
            exact hQ _ _ _ ⟨rfl, rfl, e0, e4, e11, e12, e13, e14⟩
      · rintro _ e' _ ⟨rfl, rfl, e0, e4, e11, e12, e13, e14⟩
        unfold tz
        repeat' (first | ((with_reducible refine brC (fun _ => ?_) fun _ => ?_) <;> try (exfalso; omega)) | (with_reducible apply pcallE.of; · exact cN) | (with_reducible refine And.intro ?_ ?_; · omega) | simp -dsimp -implicitDefEqProofs (disch := omega) only [VCA, Nat.reduceEqDiff, Nat.reduceAdd, Nat.reduceLT, Nat.reduceLeDiff, ↓reduceIte, fillA, okFill, setAt, exists_eq_left', e0, e4, e11, e12, e13, e14])
        first | exact ⟨_, Sub.refl _, rfl, S4 _⟩ | exact ⟨_, Sub.refl _, S4 _⟩
set_option maxHeartbeats 1000000 in
theorem refDeclE_raw {s : List UInt8} {a f : Nat} (h : Heap) (h4 : standB s a [60, 33, 45, 45] = false) (h9 : standB s a [60, 33, 100, 111, 99, 116, 121, 112, 101] = false) (ha : a + 1 < s.length) (hs : s.length ≤ 1000000)
    (hf : f = if bt s (a + 1) = 63 then a + 1 else a + 2) (hfl : f ≤ s.length) (hb : ∀ j, a ≤ j → j < f → bt s j ≠ 62) :
    DCalls (Pg G) 21 [.str s, aInt a] h fun r h' => RDecK (comM s f [62]) r h h' := by
  have c0 := refStands_ok (G := G) s [60, 33, 45, 45] a (by omega) hs (by decide)
  have c1 := refStands_ok (G := G) s [60, 33, 100, 111, 99, 116, 121, 112, 101] a (by omega) hs (by decide)
  have c3 := refUp_ok (G := G) s [62] a (by omega) hs (by decide)
  have hu := up_le (s := s) (w := [62]) (a := f) hfl
  have haf : a < f ∧ f ≤ a + 2 := by rw [hf]; split <;> omega
  have hfar := com_far haf.1 haf.2 hfl hb
  rw [← hfar] at hu
  unfold comM
  rw [← hfar]
  rw [h4] at c0
  rw [h9] at c1
  obtain ⟨u, hu'⟩ : ∃ u, upM s a [62] = u := ⟨_, rfl⟩
  rw [hu'] at c3 hu ⊢
  obtain ⟨q, hq⟩ : ∃ q, s.getD (a + 1) 0 = q := ⟨_, rfl⟩
  have hbt : bt s (a + 1) = q.toNat := by unfold bt; rw [hq]
  rw [hbt] at hf
  unfold RDecK tokR
  have hsl : ∀ v : Nat, v = s.length → seg s f v = s.drop f := fun v hv => seg_end (by omega)
  cases h63 : ((q.toNat : Int) == 63)
  · obtain rfl : f = a + 2 := by rw [hf, if_neg (by simpa using h63)]
    by_cases hul : u < s.length
    · rw [decide_eq_true hul] at c3
      rw [if_pos hul, decide_eq_true hul]
      refine dcalls_of_vc Tryz.func21 hn21 hc21 (by rw [Tryz.ntmps21]; simp) (by rw [Tryz.ntmps21]; decide) ?_
      simp -dsimp -implicitDefEqProofs (disch := omega) only [VCA, Nat.reduceEqDiff, ↓reduceIte, reduceCtorEq, c21]
      intro r4 hr4
      repeat' (first | ((with_reducible refine brC (fun _ => ?_) fun _ => ?_) <;> try (exfalso; omega)) | (with_reducible apply pcallE.of; · exact c0) | (with_reducible apply pcallE.of; · exact c1) | (with_reducible apply pcallE.of; · exact c3) | (with_reducible refine And.intro ?_ ?_; · omega) | simp -dsimp -implicitDefEqProofs (disch := omega) only [VCA, Nat.reduceEqDiff, Nat.reduceAdd, Nat.reduceLT, Nat.reduceLeDiff, ↓reduceIte, reduceCtorEq, fillA, okFill, setAt, exists_eq_left', hq, h63])
      exact ⟨_, Sub.refl _, rfl, (Sub.refl h).upd hr4⟩
    · obtain rfl : u = s.length := by omega
      rw [decide_eq_false hul] at c3
      rw [if_neg hul, decide_eq_false hul]
      refine dcalls_of_vc Tryz.func21 hn21 hc21 (by rw [Tryz.ntmps21]; simp) (by rw [Tryz.ntmps21]; decide) ?_
      simp -dsimp -implicitDefEqProofs (disch := omega) only [VCA, Nat.reduceEqDiff, ↓reduceIte, reduceCtorEq, c21]
      intro r4 hr4
      repeat' (first | ((with_reducible refine brC (fun _ => ?_) fun _ => ?_) <;> try (exfalso; omega)) | (with_reducible apply pcallE.of; · exact c0) | (with_reducible apply pcallE.of; · exact c1) | (with_reducible apply pcallE.of; · exact c3) | (with_reducible refine And.intro ?_ ?_; · omega) | simp -dsimp -implicitDefEqProofs (disch := omega) only [VCA, Nat.reduceEqDiff, Nat.reduceAdd, Nat.reduceLT, Nat.reduceLeDiff, ↓reduceIte, reduceCtorEq, fillA, okFill, setAt, exists_eq_left', hq, h63])
      exact ⟨_, Sub.refl _, by rw [hsl _ rfl]; rfl, (Sub.refl h).upd hr4⟩
  · obtain rfl : f = a + 1 := by rw [hf, if_pos (by simpa using h63)]
    by_cases hul : u < s.length
    · rw [decide_eq_true hul] at c3
      rw [if_pos hul, decide_eq_true hul]
      refine dcalls_of_vc Tryz.func21 hn21 hc21 (by rw [Tryz.ntmps21]; simp) (by rw [Tryz.ntmps21]; decide) ?_
      simp -dsimp -implicitDefEqProofs (disch := omega) only [VCA, Nat.reduceEqDiff, ↓reduceIte, reduceCtorEq, c21]
      intro r4 hr4
      repeat' (first | ((with_reducible refine brC (fun _ => ?_) fun _ => ?_) <;> try (exfalso; omega)) | (with_reducible apply pcallE.of; · exact c0) | (with_reducible apply pcallE.of; · exact c1) | (with_reducible apply pcallE.of; · exact c3) | (with_reducible refine And.intro ?_ ?_; · omega) | simp -dsimp -implicitDefEqProofs (disch := omega) only [VCA, Nat.reduceEqDiff, Nat.reduceAdd, Nat.reduceLT, Nat.reduceLeDiff, ↓reduceIte, reduceCtorEq, fillA, okFill, setAt, exists_eq_left', hq, h63])
      exact ⟨_, Sub.refl _, rfl, (Sub.refl h).upd hr4⟩
    · obtain rfl : u = s.length := by omega
      rw [decide_eq_false hul] at c3
      rw [if_neg hul, decide_eq_false hul]
      refine dcalls_of_vc Tryz.func21 hn21 hc21 (by rw [Tryz.ntmps21]; simp) (by rw [Tryz.ntmps21]; decide) ?_
      simp -dsimp -implicitDefEqProofs (disch := omega) only [VCA, Nat.reduceEqDiff, ↓reduceIte, reduceCtorEq, c21]
      intro r4 hr4
      repeat' (first | ((with_reducible refine brC (fun _ => ?_) fun _ => ?_) <;> try (exfalso; omega)) | (with_reducible apply pcallE.of; · exact c0) | (with_reducible apply pcallE.of; · exact c1) | (with_reducible apply pcallE.of; · exact c3) | (with_reducible refine And.intro ?_ ?_; · omega) | simp -dsimp -implicitDefEqProofs (disch := omega) only [VCA, Nat.reduceEqDiff, Nat.reduceAdd, Nat.reduceLT, Nat.reduceLeDiff, ↓reduceIte, reduceCtorEq, fillA, okFill, setAt, exists_eq_left', hq, h63])
      exact ⟨_, Sub.refl _, by rw [hsl _ rfl], (Sub.refl h).upd hr4⟩
theorem stand_off {s w : List UInt8} {a : Nat} (h0 : 1 < w.length) (hb : lowI (bt s (a + 1)) ≠ bt w 1) : standB s a w = false := by
  cases hst : standB s a w with
  | false => rfl
  | true => exact absurd ((stand_iff.1 hst).2 1 h0) hb
theorem refDecl_ok {s : List UInt8} {a : Nat} {q : HTok × Bool × Nat} (h : Heap) (hk : kindM s a ≠ 0) (h97 : kindM s a ≠ 97) (h47 : kindM s a = 47 → bt s (a + 2) ≠ 62 ∧ lettI (bt s (a + 2)) = false) (hq : tkMark s a = some q) (hs : s.length ≤ 1000000) :
    DCalls (Pg G) 21 [.str s, aInt a] h fun r h' => RDecK q r h h' := by
  obtain ⟨hb0, ha1, hc⟩ := kind_is hk
  have e1 : kindM s a = 33 → bt s (a + 1) = 33 := fun e => by
    unfold kindM at e
    (repeat' split at e) <;> omega
  have e2 : kindM s a = 63 → bt s (a + 1) = 63 := fun e => by
    unfold kindM at e
    (repeat' split at e) <;> omega
  have e3 : kindM s a = 47 → bt s (a + 1) = 47 := fun e => by
    unfold kindM at e
    (repeat' split at e) <;> omega
  unfold tkMark at hq
  rw [if_neg h97] at hq
  rcases hc with hc | hc | hc | ⟨hc, ha2⟩
  · exact absurd hc h97
  · have e1 := e1 hc
    rw [hc, if_pos rfl] at hq
    cases hq
    cases h4 : standB s a [60, 33, 45, 45] with
    | true => exact refDeclC_raw h h4 hs
    | false =>
      cases h9 : standB s a [60, 33, 100, 111, 99, 116, 121, 112, 101] with
      | true => exact refDeclD_raw h h4 h9 hs
      | false =>
        have : declM s a = comM s (a + 2) [62] := by unfold declM; rw [h4, h9, if_neg (by simp), if_neg (by simp)]
        rw [this]
        exact refDeclE_raw h h4 h9 ha1 hs (by rw [if_neg (by omega)]) (by omega) fun j h1 h2 => by
          have : j = a ∨ j = a + 1 := by omega
          rcases this with rfl | rfl <;> omega
  · have e2 := e2 hc
    have n1 : lowI (bt s (a + 1)) ≠ 33 := by rw [e2]; decide
    rw [hc, if_neg (by decide), if_pos rfl] at hq
    cases hq
    exact refDeclE_raw h (stand_off (by decide) n1) (stand_off (by decide) n1) ha1 hs (by rw [if_pos e2]) (by omega) fun j h1 h2 => by
      obtain rfl : j = a := by omega
      omega
  · have e3 := e3 hc
    have n1 : lowI (bt s (a + 1)) ≠ 33 := by rw [e3]; decide
    obtain ⟨h47a, h47b⟩ := h47 hc
    rw [hc, if_neg (by decide), if_neg (by decide), if_neg h47a, h47b, if_neg (by simp)] at hq
    cases hq
    exact refDeclE_raw h (stand_off (by decide) n1) (stand_off (by decide) n1) ha1 hs (by rw [if_neg (by omega)]) (by omega) fun j h1 h2 => by
      have : j = a ∨ j = a + 1 := by omega
      rcases this with rfl | rfl <;> omega
end Go.Proofs.K
end
section
set_option linter.unusedSimpArgs false
set_option linter.unusedVariables false
namespace Go.Proofs.K
open Go Go.Sim Go.Proofs
variable {G : Glob}
def c9 : SFun := ⟨.seq (.reg [⟨some 2, .mv (.c .emp), none⟩, ⟨some 3, .mv (.c (.int .i64 0)), none⟩]) (.seq (.reg [⟨some 4, .mv (.c .emp), none⟩]) (.seq (.reg [⟨some 5, .mv (.c (.int .i64 0)), none⟩, ⟨some 6, .mv (.c (.int .i64 0)), none⟩, ⟨some 7, .mv (.c (.str [])), none⟩]) (.seq (.block 0 (.loop (.seq (.seq (.reg [⟨some 14, .mv (.t 5), none⟩, ⟨some 15, .mv (.t 0), none⟩, ⟨some 16, .lenS (.t 15), none⟩, ⟨some 17, .bin .lss (.t 14) (.t 16), none⟩]) (.cond (.t 17) .skip (.exit 0))) (.block 1 (.seq (.reg [⟨some 18, .mv (.t 5), none⟩, ⟨some 8, .mv (.t 18), none⟩]) (.seq (.block 2 (.loop (.seq (.seq (.reg [⟨some 19, .mv (.t 8), none⟩, ⟨some 20, .mv (.t 0), none⟩, ⟨some 21, .lenS (.t 20), none⟩, ⟨some 22, .bin .lss (.t 19) (.t 21), none⟩]) (.cond (.t 22) .skip (.exit 2))) (.block 3 (.seq (.seq (.reg [⟨some 23, .mv (.t 7), none⟩, ⟨some 24, .bin .neq (.t 23) (.c (.str [])), none⟩, ⟨some 25, .mv (.t 24), none⟩, ⟨some 26, .mv (.t 0), some (25, true)⟩, ⟨some 27, .mv (.t 8), some (25, true)⟩, ⟨some 28, .mv (.t 7), some (25, true)⟩, ⟨some 29, .bin .add (.c (.str [60, 47])) (.t 28), some (25, true)⟩, ⟨some 30, .pcall 14 [.t 26, .t 27, .t 29], some (25, true)⟩, ⟨some 31, .pick (.t 25) (.t 30) (.c (.bool false)), none⟩, ⟨some 32, .mv (.t 31), none⟩, ⟨some 33, .mv (.t 8), some (32, true)⟩, ⟨some 34, .bin .add (.t 33) (.c (.int .i64 2)), some (32, true)⟩, ⟨some 35, .mv (.t 7), some (32, true)⟩, ⟨some 36, .lenS (.t 35), some (32, true)⟩, ⟨some 37, .bin .add (.t 34) (.t 36), some (32, true)⟩, ⟨some 38, .mv (.t 0), some (32, true)⟩, ⟨some 39, .lenS (.t 38), some (32, true)⟩, ⟨some 40, .bin .lss (.t 37) (.t 39), some (32, true)⟩, ⟨some 41, .pick (.t 32) (.t 40) (.c (.bool false)), none⟩]) (.cond (.t 41) (.seq (.reg [⟨some 42, .mv (.t 0), none⟩, ⟨some 43, .mv (.t 8), none⟩, ⟨some 44, .bin .add (.t 43) (.c (.int .i64 2)), none⟩, ⟨some 45, .mv (.t 7), none⟩, ⟨some 46, .lenS (.t 45), none⟩, ⟨some 47, .bin .add (.t 44) (.t 46), none⟩, ⟨some 48, .idxS (.t 42) (.t 47), none⟩, ⟨some 9, .mv (.t 48), none⟩]) (.seq (.reg [⟨some 49, .mv (.t 9), none⟩, ⟨some 50, .pcall 15 [.t 49], none⟩, ⟨some 51, .mv (.t 50), none⟩, ⟨some 52, .mv (.t 9), some (51, false)⟩, ⟨some 53, .bin .eql (.t 52) (.c (.int .u8 47)), some (51, false)⟩, ⟨some 54, .pick (.t 51) (.c (.bool true)) (.t 53), none⟩, ⟨some 55, .mv (.t 54), none⟩, ⟨some 56, .mv (.t 9), some (55, false)⟩, ⟨some 57, .bin .eql (.t 56) (.c (.int .u8 62)), some (55, false)⟩, ⟨some 58, .pick (.t 55) (.c (.bool true)) (.t 57), none⟩]) (.cond (.t 58) (.exit 2) .skip))) .skip)) (.seq (.seq (.reg [⟨some 59, .mv (.t 7), none⟩, ⟨some 60, .bin .eql (.t 59) (.c (.str [])), none⟩, ⟨some 61, .mv (.t 60), none⟩, ⟨some 62, .mv (.t 0), some (61, true)⟩, ⟨some 63, .mv (.t 8), some (61, true)⟩, ⟨some 64, .pcall 16 [.t 62, .t 63], some (61, true)⟩, ⟨some 65, .bin .gtr (.t 64) (.c (.int .i64 0)), some (61, true)⟩, ⟨some 66, .pick (.t 61) (.t 65) (.c (.bool false)), none⟩]) (.cond (.t 66) (.exit 2) .skip)) (.reg [⟨some 67, .mv (.t 8), none⟩, ⟨some 68, .bin .add (.t 67) (.c (.int .i64 1)), none⟩, ⟨some 8, .mv (.t 68), none⟩]))))))) (.seq (.seq (.reg [⟨some 69, .mv (.t 8), none⟩, ⟨some 70, .mv (.t 5), none⟩, ⟨some 71, .bin .gtr (.t 69) (.t 70), none⟩]) (.cond (.t 71) (.seq (.reg [⟨some 72, .mv (.t 0), none⟩, ⟨some 73, .mv (.t 5), none⟩, ⟨some 74, .mv (.t 8), none⟩, ⟨some 75, .slS (.t 72) (some (.t 73)) (some (.t 74)), none⟩, ⟨some 10, .mv (.t 75), none⟩]) (.seq (.seq (.reg [⟨some 76, .mv (.t 7), none⟩, ⟨some 77, .pcall 17 [.t 76], none⟩, ⟨some 78, .bin .neq (.t 77) (.c (.int .i64 1)), none⟩]) (.cond (.t 78) (.reg [⟨some 79, .mv (.t 10), none⟩, ⟨some 80, .pcall 18 [.t 79, .c (.bool false)], none⟩, ⟨some 10, .mv (.t 80), none⟩]) .skip)) (.reg [⟨some 81, .mv (.t 4), none⟩, ⟨some 82, .mv (.t 10), none⟩, ⟨some 83, .mv (.t 5), none⟩, ⟨some 84, .mv (.t 8), none⟩, ⟨some 85, .bld [.int .i64 0, .str [], .emp, .str [], .bool false, .int .i64 0, .int .i64 0] [(0, (1, (.c (.int .i64 3)))), (3, (1, (.t 82))), (5, (1, (.t 83))), (6, (1, (.t 84)))], none⟩, ⟨some 86, .bldF 43 7 [.t 85], none⟩, ⟨some 87, .app 43 7 88 (.t 81) (.t 86), none⟩, ⟨some 4, .mv (.t 87), none⟩]))) .skip)) (.seq (.reg [⟨some 88, .mv (.t 8), none⟩, ⟨some 5, .mv (.t 88), none⟩, ⟨some 7, .mv (.c (.str [])), none⟩]) (.seq (.seq (.reg [⟨some 89, .mv (.t 5), none⟩, ⟨some 90, .mv (.t 0), none⟩, ⟨some 91, .lenS (.t 90), none⟩, ⟨some 92, .bin .eql (.t 89) (.t 91), none⟩]) (.cond (.t 92) (.exit 0) .skip)) (.seq (.reg [⟨some 11, .new 43 7 [.int .i64 0, .str [], .emp, .str [], .bool false, .int .i64 0, .int .i64 0], none⟩]) (.seq (.reg [⟨some 12, .mv (.c (.int .i64 0)), none⟩, ⟨some 13, .mv (.c (.bool true)), none⟩]) (.seq (.block 4 (.seq (.reg [⟨some 101, .mv (.t 0), none⟩, ⟨some 102, .mv (.t 5), none⟩, ⟨some 103, .pcall 16 [.t 101, .t 102], none⟩, ⟨some 104, .bin .eql (.t 103) (.c (.int .i64 1)), none⟩, ⟨some 100, .mv (.t 104), none⟩]) (.cond (.t 100) (.reg [⟨some 106, .mv (.t 0), none⟩, ⟨some 107, .mv (.t 5), none⟩, ⟨some 108, .bin .add (.t 107) (.c (.int .i64 1)), none⟩, ⟨some 109, .call (.c (.fn 19 [] [])) [.t 106, .t 108, .c (.int .i64 1)], none⟩, ⟨some 105, .mv (.t 109), none⟩, ⟨some 110, .ext (.t 105) 0, none⟩, ⟨some 111, .ext (.t 105) 1, none⟩, ⟨none, .st 7 (.t 11) (.t 110), none⟩, ⟨some 12, .mv (.t 111), none⟩]) (.seq (.reg [⟨some 113, .mv (.t 0), none⟩, ⟨some 114, .mv (.t 5), none⟩, ⟨some 115, .pcall 16 [.t 113, .t 114], none⟩, ⟨some 116, .bin .eql (.t 115) (.c (.int .i64 2)), none⟩, ⟨some 117, .mv (.t 116), none⟩, ⟨some 118, .mv (.t 0), some (117, true)⟩, ⟨some 119, .mv (.t 5), some (117, true)⟩, ⟨some 120, .bin .add (.t 119) (.c (.int .i64 2)), some (117, true)⟩, ⟨some 121, .idxS (.t 118) (.t 120), some (117, true)⟩, ⟨some 122, .bin .eql (.t 121) (.c (.int .u8 62)), some (117, true)⟩, ⟨some 123, .pick (.t 117) (.t 122) (.c (.bool false)), none⟩, ⟨some 112, .mv (.t 123), none⟩]) (.cond (.t 112) (.seq (.reg [⟨some 124, .mv (.t 5), none⟩, ⟨some 125, .bin .add (.t 124) (.c (.int .i64 3)), none⟩, ⟨some 5, .mv (.t 125), none⟩]) (.exit 1)) (.seq (.reg [⟨some 127, .mv (.t 0), none⟩, ⟨some 128, .mv (.t 5), none⟩, ⟨some 129, .pcall 16 [.t 127, .t 128], none⟩, ⟨some 130, .bin .eql (.t 129) (.c (.int .i64 2)), none⟩, ⟨some 131, .mv (.t 130), none⟩, ⟨some 132, .mv (.t 0), some (131, true)⟩, ⟨some 133, .mv (.t 5), some (131, true)⟩, ⟨some 134, .bin .add (.t 133) (.c (.int .i64 2)), some (131, true)⟩, ⟨some 135, .idxS (.t 132) (.t 134), some (131, true)⟩, ⟨some 136, .pcall 20 [.t 135], some (131, true)⟩, ⟨some 137, .pick (.t 131) (.t 136) (.c (.bool false)), none⟩, ⟨some 126, .mv (.t 137), none⟩]) (.cond (.t 126) (.seq (.reg [⟨some 139, .mv (.t 0), none⟩, ⟨some 140, .mv (.t 5), none⟩, ⟨some 141, .bin .add (.t 140) (.c (.int .i64 2)), none⟩, ⟨some 142, .call (.c (.fn 19 [] [])) [.t 139, .t 141, .c (.int .i64 2)], none⟩, ⟨some 138, .mv (.t 142), none⟩, ⟨some 143, .ext (.t 138) 0, none⟩, ⟨some 144, .ext (.t 138) 1, none⟩, ⟨none, .st 7 (.t 11) (.t 143), none⟩, ⟨some 12, .mv (.t 144), none⟩]) (.seq (.reg [⟨some 145, .fldA 2 (.t 11), none⟩, ⟨none, .st 1 (.t 145) (.c .emp), none⟩]) (.reg [⟨some 146, .fldA 4 (.t 11), none⟩, ⟨none, .st 1 (.t 146) (.c (.bool false)), none⟩]))) (.reg [⟨some 94, .mv (.t 0), none⟩, ⟨some 95, .mv (.t 5), none⟩, ⟨some 96, .call (.c (.fn 21 [] [])) [.t 94, .t 95], none⟩, ⟨some 93, .mv (.t 96), none⟩, ⟨some 97, .ext (.t 93) 0, none⟩, ⟨some 98, .ext (.t 93) 1, none⟩, ⟨some 99, .ext (.t 93) 2, none⟩, ⟨none, .st 7 (.t 11) (.t 97), none⟩, ⟨some 12, .mv (.t 98), none⟩, ⟨some 13, .mv (.t 99), none⟩])))))))) (.seq (.seq (.reg [⟨some 147, .mv (.t 12), none⟩, ⟨some 148, .bin .lss (.t 147) (.c (.int .i64 0)), none⟩]) (.cond (.t 148) (.exit 0) .skip)) (.seq (.reg [⟨some 149, .mv (.t 5), none⟩, ⟨some 150, .mv (.t 12), none⟩, ⟨some 151, .fldA 5 (.t 11), none⟩, ⟨none, .st 1 (.t 151) (.t 149), none⟩, ⟨some 152, .fldA 6 (.t 11), none⟩, ⟨none, .st 1 (.t 152) (.t 150), none⟩]) (.seq (.reg [⟨some 153, .mv (.t 4), none⟩, ⟨some 154, .ld 7 true (.t 11), none⟩, ⟨some 155, .bldF 43 7 [.t 154], none⟩, ⟨some 156, .app 43 7 88 (.t 153) (.t 155), none⟩, ⟨some 4, .mv (.t 156), none⟩]) (.seq (.seq (.reg [⟨some 157, .mv (.t 13), none⟩]) (.cond (.t 157) (.reg [⟨some 158, .mv (.t 12), none⟩, ⟨some 6, .mv (.t 158), none⟩]) .skip)) (.seq (.seq (.reg [⟨some 159, .fldA 0 (.t 11), none⟩, ⟨some 160, .ld 1 false (.t 159), none⟩, ⟨some 161, .bin .eql (.t 160) (.c (.int .i64 1)), none⟩, ⟨some 162, .mv (.t 161), none⟩, ⟨some 163, .fldA 1 (.t 11), some (162, true)⟩, ⟨some 164, .ld 1 false (.t 163), some (162, true)⟩, ⟨some 165, .pcall 17 [.t 164], some (162, true)⟩, ⟨some 166, .bin .gtr (.t 165) (.c (.int .i64 0)), some (162, true)⟩, ⟨some 167, .pick (.t 162) (.t 166) (.c (.bool false)), none⟩]) (.cond (.t 167) (.reg [⟨some 168, .fldA 1 (.t 11), none⟩, ⟨some 169, .ld 1 false (.t 168), none⟩, ⟨some 7, .mv (.t 169), none⟩]) .skip)) (.reg [⟨some 170, .mv (.t 12), none⟩, ⟨some 5, .mv (.t 170), none⟩])))))))))))))))))) (.seq (.reg [⟨some 171, .mv (.t 4), none⟩, ⟨some 172, .mv (.t 6), none⟩, ⟨some 2, .mv (.t 171), none⟩, ⟨some 3, .mv (.t 172), none⟩]) .ret)))), [.tmp 2, .tmp 3]⟩
theorem hc9 : toSF Tryz.prog {pure := [14, 16, 15, 20, 17, 18]} Tryz.f9 = some c9 := by kernel_rfl
theorem hn9 : (Tryz.f9.name == "runtime.NumGoroutine") = false := by kernel_rfl
def rndC : SCode := cB (cR (cB (cB (cL (cR (cR (cR c9.code)))))))
def txtC : SCode := cL (cR rndC)
def Ft (e0 e : Env) : Prop := ∀ t, t ≤ 7 → e t = e0 t
theorem Ft.refl (e : Env) : Ft e e := fun _ _ => rfl
theorem Ft.put {e0 e : Env} (F : Ft e0 e) {k : Nat} (hk : 8 ≤ k) (v : AVal) : Ft e0 (upd e k v) := fun t h1 => by
  rw [upd_ne _ _ (by omega)]; exact F t h1
def stopT (s : List UInt8) (rw : List UInt8) (i : Nat) : Bool := if rw = [] then kindM s i != 0 else closeM s i rw
theorem textEnd_stop (s rw : List UInt8) (a : Nat) : textEnd s a rw = firstM (stopT s rw) s.length a := by
  unfold textEnd stopT
  split <;> rfl
theorem kindR_pos (s : List UInt8) (a : Nat) : decide (0 < kindR s a) = (kindM s a != 0) := by
  rw [kindR_eq]
  by_cases h0 : kindM s a = 0
  · rw [h0]; decide
  · have : 0 < (if kindM s a = 97 then (1 : Int) else if kindM s a = 47 then 2 else if kindM s a = 0 then 0 else 3) := by
      (repeat' split) <;> first | decide | omega
    rw [decide_eq_true this]; simpa using h0
set_option maxHeartbeats 2000000 in
theorem txt_ok {s rw : List UInt8} {e : Env} {h : Heap} {K : SExit → Env → Heap → Prop} {j : Nat} (e0 : e 0 = .str s) (e7 : e 7 = .str rw) (e8 : e 8 = aInt j) (hj : j ≤ s.length) (hs : s.length ≤ 1000000) (hw : rw.length ≤ 1000)
    (hK : ∀ e' : Env, Ft e e' → e' 8 = aInt (textEnd s j rw) → K .normal e' h) : vc (Pg G) txtC K e h := by
  rw [textEnd_stop] at hK
  skip
  simp -dsimp -implicitDefEqProofs (disch := omega) only [VCA, txtC, rndC, cL, cR, cB, c9]
  refine LoopVC.intro (fun m e' h' => ∃ i : Nat, i ≤ s.length ∧ m = s.length - i ∧ Ft e e' ∧ e' 8 = aInt i ∧ h' = h ∧ firstM (stopT s rw) s.length i = firstM (stopT s rw) s.length j) (s.length - j)
    (by exact ⟨j, hj, rfl, .refl _, e8, rfl, rfl⟩) ?_
  rintro m e' h' ⟨i, hi, rfl, hp, e8', rfl, hsk⟩
  have e0' : e' 0 = .str s := (hp 0 (by omega)).trans e0
  have e7' : e' 7 = .str rw := (hp 7 (by omega)).trans e7
  by_cases hl : i < s.length
  · have hd : decide ((i : Int) < (s.length : Int)) = true := decide_eq_true (by omega)
    by_cases hrw : rw = []
    · subst hrw
      have cK := refKind_ok (G := G) s i hl hs
      have hkp := kindR_pos s i
      have hst : stopT s [] i = (kindM s i != 0) := if_pos rfl
      rw [← hkp] at hst
      have n0 : (([] : List UInt8) != []) = false := rfl
      have q0 : (([] : List UInt8) == []) = true := rfl
      cases hk : decide (0 < kindR s i) <;> rw [hk] at hst
      · have hx := first_on hl hst
        have hk' : decide (kindR s i > 0) = false := hk
        repeat' (first | ((with_reducible refine brC (fun _ => ?_) fun _ => ?_) <;> try (exfalso; omega)) | (with_reducible apply pcallE.of; · exact cK) | (with_reducible refine And.intro ?_ ?_; · omega) | simp -dsimp -implicitDefEqProofs (disch := omega) only [↓vcOps_sp 25, ↓vcOps_sp 32, ↓vcOps_sp 61, VCA, Nat.reduceEqDiff, ↓reduceIte, reduceCtorEq, e0', e7', e8', hd, hk', n0, q0])
        exact ⟨_, by omega, i + 1, by omega, rfl, by repeat' (first | exact hp | refine Ft.put ?_ (by omega) _), by omega, hx.symm.trans hsk⟩
      · have hx := first_off hst hl
        have hk' : decide (kindR s i > 0) = true := hk
        repeat' (first | ((with_reducible refine brC (fun _ => ?_) fun _ => ?_) <;> try (exfalso; omega)) | (with_reducible apply pcallE.of; · exact cK) | (with_reducible refine And.intro ?_ ?_; · omega) | simp -dsimp -implicitDefEqProofs (disch := omega) only [↓vcOps_sp 25, ↓vcOps_sp 32, ↓vcOps_sp 61, VCA, Nat.reduceEqDiff, ↓reduceIte, reduceCtorEq, e0', e7', e8', hd, hk', n0, q0])
        exact hK _ (by repeat' (first | exact hp | refine Ft.put ?_ (by omega) _)) (by rw [← hsk, hx]; exact e8')
    · have r1 : (rw != []) = true := by simpa using hrw
      have r2 : (rw == []) = false := by simpa using hrw
      have cS := refStands_ok (G := G) s (60 :: 47 :: rw) i (by omega) hs (by simp only [List.length_cons]; omega)
      have hst : stopT s rw i = closeM s i rw := if_neg hrw
      unfold closeM at hst
      cases hb1 : standB s i (60 :: 47 :: rw) <;> rw [hb1] at hst cS
      · rw [Bool.false_and, Bool.and_false] at hst
        have hx := first_on hl hst
        repeat' (first | ((with_reducible refine brC (fun _ => ?_) fun _ => ?_) <;> try (exfalso; omega)) | (with_reducible apply pcallE.of; · exact cS) | (with_reducible refine And.intro ?_ ?_; · omega) | simp -dsimp -implicitDefEqProofs (disch := omega) only [↓vcOps_sp 25, ↓vcOps_sp 32, ↓vcOps_sp 61, VCA, Nat.reduceEqDiff, Nat.reduceAdd, ↓reduceIte, reduceCtorEq, e0', e7', e8', hd, r1, r2])
        exact ⟨_, by omega, i + 1, by omega, rfl, by repeat' (first | exact hp | refine Ft.put ?_ (by omega) _), by omega, hx.symm.trans hsk⟩
      · rw [Bool.true_and] at hst
        by_cases hlt : i + 2 + rw.length < s.length
        · rw [decide_eq_true hlt, Bool.true_and] at hst
          have hd2 : decide ((i : Int) + 2 + (rw.length : Int) < (s.length : Int)) = true := decide_eq_true (by omega)
          obtain ⟨b, hb⟩ : ∃ b, s.getD (i + 2 + rw.length) 0 = b := ⟨_, rfl⟩
          have tn : ((i : Int) + 2 + (rw.length : Int)).toNat = i + 2 + rw.length := by omega
          have eb : bt s (i + 2 + rw.length) = b.toNat := by unfold bt; rw [hb]
          have cB' := refBlank_ok (G := G) b
          rw [eb] at hst
          unfold tagStop at hst
          cases hb1 : blankI b.toNat <;> rw [hb1] at cB' hst
          · cases h47 : ((b.toNat : Int) == 47) <;> rw [h47] at hst
            · cases h62 : ((b.toNat : Int) == 62) <;> rw [h62] at hst
              · have hx := first_on hl hst
                repeat' (first | ((with_reducible refine brC (fun _ => ?_) fun _ => ?_) <;> try (exfalso; omega)) | (with_reducible apply pcallE.of; · exact cS) | (with_reducible apply pcallE.of; · exact cB') | (with_reducible refine And.intro ?_ ?_; · omega) | simp -dsimp -implicitDefEqProofs (disch := omega) only [↓vcOps_sp 25, ↓vcOps_sp 32, ↓vcOps_sp 51, ↓vcOps_sp 55, ↓vcOps_sp 61, VCA, Nat.reduceEqDiff, Nat.reduceAdd, ↓reduceIte, reduceCtorEq, e0', e7', e8', hd, r1, r2, hd2, tn, hb, h47, h62])
                exact ⟨_, by omega, i + 1, by omega, rfl, by repeat' (first | exact hp | refine Ft.put ?_ (by omega) _), by omega, hx.symm.trans hsk⟩
              · have hx := first_off hst hl
                repeat' (first | ((with_reducible refine brC (fun _ => ?_) fun _ => ?_) <;> try (exfalso; omega)) | (with_reducible apply pcallE.of; · exact cS) | (with_reducible apply pcallE.of; · exact cB') | (with_reducible refine And.intro ?_ ?_; · omega) | simp -dsimp -implicitDefEqProofs (disch := omega) only [↓vcOps_sp 25, ↓vcOps_sp 32, ↓vcOps_sp 51, ↓vcOps_sp 55, VCA, Nat.reduceEqDiff, Nat.reduceAdd, ↓reduceIte, reduceCtorEq, e0', e7', e8', hd, r1, hd2, tn, hb, h47, h62])
                exact hK _ (by repeat' (first | exact hp | refine Ft.put ?_ (by omega) _)) (by rw [← hsk, hx]; exact e8')
            · have hx := first_off hst hl
              repeat' (first | ((with_reducible refine brC (fun _ => ?_) fun _ => ?_) <;> try (exfalso; omega)) | (with_reducible apply pcallE.of; · exact cS) | (with_reducible apply pcallE.of; · exact cB') | (with_reducible refine And.intro ?_ ?_; · omega) | simp -dsimp -implicitDefEqProofs (disch := omega) only [↓vcOps_sp 25, ↓vcOps_sp 32, ↓vcOps_sp 51, ↓vcOps_sp 55, VCA, Nat.reduceEqDiff, Nat.reduceAdd, ↓reduceIte, reduceCtorEq, e0', e7', e8', hd, r1, hd2, tn, hb, h47])
              exact hK _ (by repeat' (first | exact hp | refine Ft.put ?_ (by omega) _)) (by rw [← hsk, hx]; exact e8')
          · have hx := first_off hst hl
            repeat' (first | ((with_reducible refine brC (fun _ => ?_) fun _ => ?_) <;> try (exfalso; omega)) | (with_reducible apply pcallE.of; · exact cS) | (with_reducible apply pcallE.of; · exact cB') | (with_reducible refine And.intro ?_ ?_; · omega) | simp -dsimp -implicitDefEqProofs (disch := omega) only [↓vcOps_sp 25, ↓vcOps_sp 32, ↓vcOps_sp 51, ↓vcOps_sp 55, VCA, Nat.reduceEqDiff, Nat.reduceAdd, ↓reduceIte, reduceCtorEq, e0', e7', e8', hd, r1, hd2, tn, hb])
            exact hK _ (by repeat' (first | exact hp | refine Ft.put ?_ (by omega) _)) (by rw [← hsk, hx]; exact e8')
        · rw [decide_eq_false hlt, Bool.false_and] at hst
          have hx := first_on hl hst
          have hd2 : decide ((i : Int) + 2 + (rw.length : Int) < (s.length : Int)) = false := decide_eq_false (by omega)
          repeat' (first | ((with_reducible refine brC (fun _ => ?_) fun _ => ?_) <;> try (exfalso; omega)) | (with_reducible apply pcallE.of; · exact cS) | (with_reducible refine And.intro ?_ ?_; · omega) | simp -dsimp -implicitDefEqProofs (disch := omega) only [↓vcOps_sp 25, ↓vcOps_sp 32, ↓vcOps_sp 61, VCA, Nat.reduceEqDiff, Nat.reduceAdd, ↓reduceIte, reduceCtorEq, e0', e7', e8', hd, r1, r2, hd2])
          exact ⟨_, by omega, i + 1, by omega, rfl, by repeat' (first | exact hp | refine Ft.put ?_ (by omega) _), by omega, hx.symm.trans hsk⟩
  · have hx : firstM (stopT s rw) s.length i = i := first_end (by omega)
    have hd : decide ((i : Int) < (s.length : Int)) = false := decide_eq_false (by omega)
    repeat' (first | ((with_reducible refine brC (fun _ => ?_) fun _ => ?_) <;> try (exfalso; omega)) | (with_reducible refine And.intro ?_ ?_; · omega) | simp -dsimp -implicitDefEqProofs (disch := omega) only [VCA, Nat.reduceEqDiff, ↓reduceIte, reduceCtorEq, e0', e8', hd])
    all_goals first | (exfalso; omega) | exact hK _ (by repeat' (first | exact hp | refine Ft.put ?_ (by omega) _)) (by rw [← hsk, hx]; exact e8')
end Go.Proofs.K
end
section
set_option linter.unusedSimpArgs false
set_option linter.unusedVariables false
namespace Go.Proofs.K
open Go Go.Sim Go.Proofs
variable {G : Glob}
def encA (t : HTok) (l : AVal) : List AVal := [aInt t.kind, .str t.name, l, .str t.text, .bool t.self, aInt t.frm, aInt t.til]
def encR (t : HTok) : List AVal := encA t (if t.kind = 1 then sl eAttr t.attrs else .emp)
def txpC : SCode := cL (cR (cR rndC))
def Fp (e0 e : Env) : Prop := ∀ t, t ≤ 8 → t ≠ 4 → e t = e0 t
theorem Fp.refl (e : Env) : Fp e e := fun _ _ _ => rfl
theorem Fp.put {e0 e : Env} (F : Fp e0 e) {k : Nat} (hk : 9 ≤ k ∨ k = 4) (v : AVal) : Fp e0 (upd e k v) := fun t h1 h2 => by
  rw [upd_ne _ _ (by omega)]; exact F t h1 h2
set_option maxHeartbeats 2000000 in
theorem txp_ok {h0 h : Heap} {s rw : List UInt8} {e : Env} {K : SExit → Env → Heap → Prop} {p : Nat} {T : List HTok} {out : AVal} (e0 : e 0 = .str s) (e4 : e 4 = out) (e5 : e 5 = aInt p) (e7 : e 7 = .str rw) (e8 : e 8 = aInt (textEnd s p rw)) (hp : p ≤ s.length) (hs : s.length ≤ 1000000) (hT : T.length ≤ 1000000)
    (A : Acc h0 Tt 7 (T.map encR) out h) (S : Sub h0 h)
    (hK : ∀ (e' : Env) (h' : Heap) (out' : AVal), Fp e e' → e' 4 = out' → Acc h0 Tt 7 ((T ++ textTok s p rw).map encR) out' h' → Sub h0 h' → K .normal e' h') : vc (Pg G) txpC K e h := by
  obtain ⟨h1, h2⟩ := textEnd_le (nm := rw) hp
  unfold textTok at hK
  obtain ⟨E, hE⟩ : ∃ E, textEnd s p rw = E := ⟨_, rfl⟩
  rw [hE] at e8 h1 h2 hK
  have cW := refTokRaw_ok (G := G) rw
  have cE1 : PCalls (Pg G) 18 [.str ((s.take E).drop p), .bool false] (.str (readD (seg s p E) false)) := refRead_ok (G := G) (seg s p E) false (by have := seg_le s p E; omega)
  obtain ⟨tx, htx⟩ : ∃ t, readD (seg s p E) false = t := ⟨_, rfl⟩
  rw [htx] at cE1 hK
  have iv := Acc.isv A
  skip
  by_cases hlt : p < E
  · rw [if_pos hlt] at hK
    have hd : decide ((E : Int) > (p : Int)) = true := decide_eq_true (by omega)
    have el : (T.map encR).length = T.length := List.length_map ..
    by_cases hr : rawM rw = 1
    · rw [hr] at cW
      rw [if_pos hr] at hK
      repeat' (first | ((with_reducible refine brC (fun _ => ?_) fun _ => ?_) <;> try (exfalso; omega)) | (with_reducible apply pcallE.of; · exact cW) | (with_reducible refine And.intro ?_ ?_; · omega) | simp -dsimp -implicitDefEqProofs (disch := omega) only [VCA, Nat.reduceEqDiff, Nat.reduceAdd, Nat.reduceLeDiff, ↓reduceIte, reduceCtorEq, okParts, fillA, okFill, forall_eq, exists_eq_left, txpC, rndC, cL, cR, cB, c9, e0, e4, e5, e7, e8, hd])
      refine A.appW S (by rw [el]; simp only [List.length_cons, List.length_nil]; omega) (by rw [el]; simp only [List.length_cons, List.length_nil]; omega) fun a' hD AD SD kD => ?_
      repeat' (first | ((with_reducible refine brC (fun _ => ?_) fun _ => ?_) <;> try (exfalso; omega)) | (with_reducible refine And.intro ?_ ?_; · omega) | simp -dsimp -implicitDefEqProofs (disch := omega) only [VCA, ↓reduceIte])
      exact hK _ _ a' (by repeat' (first | exact .refl _ | refine Fp.put ?_ (by omega) _)) (by simp [upd]) (by rw [List.map_append]; exact AD) SD
    · have hr2 : (rawM rw != 1) = true := by simpa using hr
      rw [if_neg hr] at hK
      repeat' (first | ((with_reducible refine brC (fun _ => ?_) fun _ => ?_) <;> try (exfalso; omega)) | (with_reducible apply pcallE.of; · exact cW) | (with_reducible apply pcallE.of; · exact cE1) | (with_reducible refine And.intro ?_ ?_; · omega) | simp -dsimp -implicitDefEqProofs (disch := omega) only [VCA, Nat.reduceEqDiff, Nat.reduceAdd, Nat.reduceLeDiff, ↓reduceIte, reduceCtorEq, okParts, fillA, okFill, forall_eq, exists_eq_left, txpC, rndC, cL, cR, cB, c9, e0, e4, e5, e7, e8, hd, hr2])
      refine A.appW S (by rw [el]; simp only [List.length_cons, List.length_nil]; omega) (by rw [el]; simp only [List.length_cons, List.length_nil]; omega) fun a' hD AD SD kD => ?_
      repeat' (first | ((with_reducible refine brC (fun _ => ?_) fun _ => ?_) <;> try (exfalso; omega)) | (with_reducible refine And.intro ?_ ?_; · omega) | simp -dsimp -implicitDefEqProofs (disch := omega) only [VCA, ↓reduceIte])
      exact hK _ _ a' (by repeat' (first | exact .refl _ | refine Fp.put ?_ (by omega) _)) (by simp [upd]) (by rw [List.map_append]; exact AD) SD
  · rw [if_neg hlt, List.append_nil] at hK
    have hd : decide ((E : Int) > (p : Int)) = false := decide_eq_false (by omega)
    repeat' (first | ((with_reducible refine brC (fun _ => ?_) fun _ => ?_) <;> try (exfalso; omega)) | (with_reducible refine And.intro ?_ ?_; · omega) | simp -dsimp -implicitDefEqProofs (disch := omega) only [VCA, Nat.reduceEqDiff, ↓reduceIte, txpC, rndC, cL, cR, cB, c9, e5, e8, hd])
    exact hK _ _ out (by repeat' (first | exact .refl _ | refine Fp.put ?_ (by omega) _)) e4 A S
def tailC : SCode := cR (cR (cR (cR (cR (cR (cR (cR rndC)))))))
set_option maxHeartbeats 2000000 in
theorem tail_ok {h0 h : Heap} {s : List UInt8} {e : Env} {K : SExit → Env → Heap → Prop} {a b sf r11 : Nat} {T : List HTok} {t : HTok} {l out : AVal} {en : Bool}
    (e0 : e 0 = .str s) (e4 : e 4 = out) (e5 : e 5 = aInt a) (e6 : e 6 = aInt sf) (e7 : e 7 = .str []) (e11 : e 11 = .vp r11 0) (e12 : e 12 = aInt b) (e13 : e 13 = .bool en) (hT : T.length ≤ 1000000)
    (A : Acc h0 Tt 7 (T.map encR) out h) (S : Sub h0 h) (n11 : h0 r11 = none) (z11 : h r11 = some ⟨Tt, 7, [encA t l]⟩) (hl : l = if t.kind = 1 then sl eAttr t.attrs else .emp) (hro : rootOf out ≠ some r11)
    (hK : ∀ (e' : Env) (h' : Heap) (out' : AVal), e' 0 = .str s → e' 4 = out' → e' 5 = aInt b → e' 6 = aInt (if en = true then b else sf : Nat) → e' 7 = .str (rawOf t) → Acc h0 Tt 7 ((T ++ [{ t with frm := a, til := b }]).map encR) out' h' → Sub h0 h' → K .normal e' h') : vc (Pg G) tailC K e h := by
  have el : (T.map encR).length = T.length := List.length_map ..
  obtain ⟨kd, nm, at', tx, sl', fr, ti⟩ := t
  have cW := refTokRaw_ok (G := G) nm
  have iv := Acc.isv A
  have lv : isV l = true ∧ cellsOf l = [l] := by
    subst hl
    simp only
    split <;> exact ⟨rfl, rfl⟩
  unfold encA at z11
  simp only at z11
  have hd : decide ((b : Int) < 0) = false := decide_eq_false (by omega)
  skip
  have FIN : ∀ (a' : AVal) (hD : Heap) (e' : Env) (w : List UInt8), w = rawOf ⟨kd, nm, at', tx, sl', fr, ti⟩ → Acc h0 Tt 7 (T.map encR ++ [[aInt kd, .str nm, l, .str tx, .bool sl', aInt a, aInt b]]) a' hD → Sub h0 hD → e' 0 = .str s → e' 4 = a' → e' 5 = aInt b → e' 6 = aInt (if en = true then b else sf : Nat) → e' 7 = .str w → K .normal e' hD := fun a' hD e' w hw AD SD q0 q4 q5 q6 q7 =>
    hK e' hD a' q0 q4 q5 q6 (by rw [q7, hw]) (by rw [List.map_append]; subst hl; exact AD) SD
  cases hk1 : (kd == 1)
  · have hw : ([] : List UInt8) = rawOf ⟨kd, nm, at', tx, sl', fr, ti⟩ := by unfold rawOf; rw [if_neg]; rintro ⟨q, _⟩; simp only at q; rw [q] at hk1; cases hk1
    cases en
    all_goals
      repeat' (first | ((with_reducible refine brC (fun _ => ?_) fun _ => ?_) <;> try (exfalso; omega)) | (with_reducible refine And.intro ?_ ?_; · omega) | simp -dsimp -implicitDefEqProofs (disch := omega) only [VCA, Nat.reduceEqDiff, Nat.reduceAdd, Nat.reduceLT, Nat.reduceLeDiff, ↓reduceIte, okParts, setAt, forall_eq, exists_eq_left, exists_eq_left', tailC, rndC, cL, cR, cB, c9, e4, e5, e11, e12, hd, z11])
      refine (A.keepA hro _).appW (S.upd n11) (by rw [el]; simp only [List.length_cons, List.length_nil]; omega) (by rw [el]; simp only [List.length_cons, List.length_nil]; omega) fun a' hD AD SD kD => ?_
      have d11 := (kD r11 _ (upd_same _ _ _) hro).1
      repeat' (first | ((with_reducible refine brC (fun _ => ?_) fun _ => ?_) <;> try (exfalso; omega)) | (with_reducible refine And.intro ?_ ?_; · omega) | simp -dsimp -implicitDefEqProofs (disch := omega) only [↓vcOps_sp 162, VCA, Nat.reduceEqDiff, Nat.reduceAdd, Nat.reduceLT, Nat.reduceLeDiff, ↓reduceIte, exists_eq_left', e11, e12, e13, d11, hk1])
      exact FIN a' hD _ _ hw AD SD (by simp [upd, e0]) (by simp [upd]) (by simp [upd]) (by simp [upd, e6]) (by simp [upd, e7])
  · by_cases hr : 0 < rawM nm
    · have hr2 : decide (rawM nm > 0) = true := decide_eq_true hr
      have hw : nm = rawOf ⟨kd, nm, at', tx, sl', fr, ti⟩ := by unfold rawOf; rw [if_pos ⟨by simpa using hk1, hr⟩]
      cases en
      all_goals
        repeat' (first | ((with_reducible refine brC (fun _ => ?_) fun _ => ?_) <;> try (exfalso; omega)) | (with_reducible refine And.intro ?_ ?_; · omega) | simp -dsimp -implicitDefEqProofs (disch := omega) only [VCA, Nat.reduceEqDiff, Nat.reduceAdd, Nat.reduceLT, Nat.reduceLeDiff, ↓reduceIte, okParts, setAt, forall_eq, exists_eq_left, exists_eq_left', tailC, rndC, cL, cR, cB, c9, e4, e5, e11, e12, hd, z11])
        refine (A.keepA hro _).appW (S.upd n11) (by rw [el]; simp only [List.length_cons, List.length_nil]; omega) (by rw [el]; simp only [List.length_cons, List.length_nil]; omega) fun a' hD AD SD kD => ?_
        have d11 := (kD r11 _ (upd_same _ _ _) hro).1
        repeat' (first | ((with_reducible refine brC (fun _ => ?_) fun _ => ?_) <;> try (exfalso; omega)) | (with_reducible apply pcallE.of; · exact cW) | (with_reducible refine And.intro ?_ ?_; · omega) | simp -dsimp -implicitDefEqProofs (disch := omega) only [↓vcOps_sp 162, VCA, Nat.reduceEqDiff, Nat.reduceAdd, Nat.reduceLT, Nat.reduceLeDiff, ↓reduceIte, exists_eq_left', e11, e12, e13, d11, hk1, hr2])
        exact FIN a' hD _ _ hw AD SD (by simp [upd, e0]) (by simp [upd]) (by simp [upd]) (by simp [upd, e6]) (by simp [upd])
    · have hr2 : decide (rawM nm > 0) = false := decide_eq_false hr
      have hw : ([] : List UInt8) = rawOf ⟨kd, nm, at', tx, sl', fr, ti⟩ := by unfold rawOf; rw [if_neg]; rintro ⟨_, q⟩; exact hr q
      cases en
      all_goals
        repeat' (first | ((with_reducible refine brC (fun _ => ?_) fun _ => ?_) <;> try (exfalso; omega)) | (with_reducible refine And.intro ?_ ?_; · omega) | simp -dsimp -implicitDefEqProofs (disch := omega) only [VCA, Nat.reduceEqDiff, Nat.reduceAdd, Nat.reduceLT, Nat.reduceLeDiff, ↓reduceIte, okParts, setAt, forall_eq, exists_eq_left, exists_eq_left', tailC, rndC, cL, cR, cB, c9, e4, e5, e11, e12, hd, z11])
        refine (A.keepA hro _).appW (S.upd n11) (by rw [el]; simp only [List.length_cons, List.length_nil]; omega) (by rw [el]; simp only [List.length_cons, List.length_nil]; omega) fun a' hD AD SD kD => ?_
        have d11 := (kD r11 _ (upd_same _ _ _) hro).1
        repeat' (first | ((with_reducible refine brC (fun _ => ?_) fun _ => ?_) <;> try (exfalso; omega)) | (with_reducible apply pcallE.of; · exact cW) | (with_reducible refine And.intro ?_ ?_; · omega) | simp -dsimp -implicitDefEqProofs (disch := omega) only [↓vcOps_sp 162, VCA, Nat.reduceEqDiff, Nat.reduceAdd, Nat.reduceLT, Nat.reduceLeDiff, ↓reduceIte, exists_eq_left', e11, e12, e13, d11, hk1, hr2])
        exact FIN a' hD _ _ hw AD SD (by simp [upd, e0]) (by simp [upd]) (by simp [upd]) (by simp [upd, e6]) (by simp [upd, e7])
end Go.Proofs.K
end
section
set_option linter.unusedSimpArgs false
set_option linter.unusedVariables false
namespace Go.Proofs.K
open Go Go.Sim Go.Proofs
variable {G : Glob}
theorem rawOf_len (t : HTok) : (rawOf t).length ≤ 8 := by
  unfold rawOf
  split
  · rename_i h
    have h2 := h.2
    unfold rawM at h2
    split at h2
    · rename_i q; rcases q with q | q <;> rw [q] <;> decide
    · split at h2
      · rename_i q; rcases q with q | q <;> rw [q] <;> decide
      · exact absurd h2 (by decide)
  · simp
def restR : SCode := cR (cR (cR rndC))
theorem rest_eq : restR = .seq (cL restR) (.seq (cL (cR restR)) (.seq (cL (cR (cR restR))) (.seq (cL (cR (cR (cR restR)))) (.seq (cL (cR (cR (cR (cR restR))))) tailC)))) := rfl
theorem declM_kind (s : List UInt8) (a : Nat) : (declM s a).1.kind = 4 ∨ (declM s a).1.kind = 5 := by
  unfold declM comM
  (repeat' split) <;> first | exact .inl rfl | exact .inr rfl
theorem mark_decl {s : List UInt8} {a : Nat} (hk : kindM s a ≠ 0) (h97 : kindM s a ≠ 97) (h47 : kindM s a = 47 → bt s (a + 2) ≠ 62 ∧ lettI (bt s (a + 2)) = false) : ∃ t en b, tkMark s a = some (t, en, b) ∧ (t.kind = 4 ∨ t.kind = 5) := by
  obtain ⟨_, _, hc⟩ := kind_is hk
  unfold tkMark
  rw [if_neg h97]
  rcases hc with hc | hc | hc | ⟨hc, _⟩
  · exact absurd hc h97
  · rw [if_pos hc]; exact ⟨_, _, _, rfl, declM_kind s a⟩
  · rw [hc, if_neg (by decide), if_pos rfl]; exact ⟨_, _, _, rfl, .inl rfl⟩
  · obtain ⟨q1, q2⟩ := h47 hc
    rw [hc, if_neg (by decide), if_neg (by decide), if_neg q1, q2, if_neg (by simp)]; exact ⟨_, _, _, rfl, .inl rfl⟩
theorem refDecl_at {s : List UInt8} {a : Nat} {t : HTok} {en : Bool} {b : Nat} (h : Heap) (hk : kindM s a ≠ 0) (h97 : kindM s a ≠ 97) (h47 : kindM s a = 47 → bt s (a + 2) ≠ 62 ∧ lettI (bt s (a + 2)) = false) (hq : tkMark s a = some (t, en, b)) (hs : s.length ≤ 1000000) :
    DCalls (Pg G) 21 [.str s, aInt a] h fun r h' => h' = h ∧ r = .tup [.agg (encA t .emp), aInt b, .bool en] := by
  refine (refDecl_ok h hk h97 h47 hq hs).outV fun r h' ⟨e, S⟩ => ?_
  subst e
  exact ⟨h, newH _ h', _, S, newH_sub _ _, newH_disj _ _, .tup' (.cons (.refl _) (.cons (.refl _) (.cons (.refl _) .nil))), rfl, rfl⟩
def RReadK (h0 : Heap) (s : List UInt8) (r : AVal) (h' : Heap) : Prop := ∃ out, Acc h0 Tt 7 ((readM s).1.map encR) out h' ∧ Sub h0 h' ∧ r = .tup [out, aInt (readM s).2]
theorem tagF_le {s : List UInt8} : ∀ (f c : Nat) (l : List HAttr) {q : List HAttr × Bool × Nat}, c ≤ s.length → tagF s f c l = some q → q.2.2 ≤ s.length
  | 0, c, l, q, _, h => by cases h
  | f + 1, c, l, q, hc, h => by
    rw [tagF] at h
    have hu := skip_le (q := gapStop) hc
    split at h
    · rename_i hl
      split at h
      · cases h; simp only; omega
      · exact tagF_le f _ _ (attr_next hl).2 h
    · cases h
theorem tagM_le {s : List UInt8} {c : Nat} {q : List UInt8 × List HAttr × Bool × Nat} (hc : c ≤ s.length) (h : tagM s c = some q) : q.2.2.2 ≤ s.length := by
  unfold tagM at h
  have hu := skip_le (q := tagStop) hc
  cases hh : tagF s (s.length + 1) (skipM tagStop s c) [] with
  | none => rw [hh] at h; cases h
  | some x =>
    rw [hh] at h; cases h
    exact tagF_le _ _ _ hu.2 hh
theorem declM_le {s : List UInt8} {a : Nat} (ha : a + 1 < s.length) : (declM s a).2.2 ≤ s.length := by
  unfold declM
  split
  · rename_i h
    have h4 : a + 4 ≤ s.length := (stand_iff.1 h).1
    split
    · rename_i h1
      have : a + 4 + 1 ≤ s.length := (stand_iff.1 h1).1
      simp only; omega
    · split
      · rename_i h1
        have : a + 4 + 2 ≤ s.length := (stand_iff.1 h1).1
        simp only; omega
      · exact com_le h4
  · split
    · simp only
      split <;> omega
    · exact com_le (by omega)
theorem mark_le {s : List UInt8} {a : Nat} {q : HTok × Bool × Nat} (hk : kindM s a ≠ 0) (h : tkMark s a = some q) : q.2.2 ≤ s.length := by
  obtain ⟨_, h1, hc⟩ := kind_is hk
  unfold tkMark at h
  rcases hc with hc | hc | hc | ⟨hc, h2⟩
  · rw [hc, if_pos rfl] at h
    cases ht : tagM s (a + 1) with
    | none => rw [ht] at h; cases h
    | some x => rw [ht] at h; cases h; exact tagM_le (by omega) ht
  · rw [hc, if_neg (by decide), if_pos rfl] at h
    cases h; exact declM_le h1
  · rw [hc, if_neg (by decide), if_neg (by decide), if_pos rfl] at h
    cases h; exact com_le (by omega)
  · rw [hc, if_neg (by decide), if_neg (by decide), if_neg (by decide)] at h
    split at h
    · cases h; simp only; omega
    · split at h
      · cases ht : tagM s (a + 2) with
        | none => rw [ht] at h; cases h
        | some x => rw [ht] at h; cases h; exact tagM_le (by omega) ht
      · cases h; exact com_le (by omega)
def RInv (h0 : Heap) (s : List UInt8) (m : Nat) (e : Env) (h' : Heap) : Prop :=
  ∃ (p f sf : Nat) (T : List HTok) (rw : List UInt8) (out : AVal), p ≤ s.length ∧ m = s.length - p ∧ e 0 = .str s ∧ e 4 = out ∧ e 5 = aInt p ∧ e 6 = aInt sf ∧ e 7 = .str rw ∧ rw.length ≤ 8 ∧ Acc h0 Tt 7 (T.map encR) out h' ∧ Sub h0 h' ∧
    T.length ≤ 2 * p ∧ s.length < f + p ∧ readF s f (textEnd s p rw) (T ++ textTok s p rw) sf = readM s
theorem accT_off {h0 h : Heap} {ty : TypeId} {sz r : Nat} {cells : List (List AVal)} {a : AVal} (A : Acc h0 ty sz cells a h) (hr : h r = none) : rootOf a ≠ some r := fun e => by
  rcases A with ⟨_, rfl⟩ | ⟨r', _, q1, rfl⟩
  · cases e
  · cases e; rw [hr] at q1; cases q1
theorem rnd_close {h0 h2 : Heap} {s : List UInt8} {e3 : Env} {K : SExit → Env → Heap → Prop} {p E f sf r11 b : Nat} {T' : List HTok} {t : HTok} {out2 l : AVal} {en : Bool} {X : AObj}
    (hs : s.length ≤ 100000) (hp : p ≤ E) (hE : E < s.length) (hk : kindM s E ≠ 0) (hq : tkMark s E = some (t, en, b)) (hk0 : t.kind ≠ 0) (hT : T'.length ≤ 2 * p + 1) (hf : s.length < f + 1 + p)
    (hrd : readF s (f + 1) E T' sf = readM s) (A2 : Acc h0 Tt 7 (T'.map encR) out2 h2) (S2 : Sub h0 h2) (hr11 : h2 r11 = none)
    (g0 : e3 0 = .str s) (g4 : e3 4 = out2) (g5 : e3 5 = aInt E) (g6 : e3 6 = aInt sf) (g7 : e3 7 = .str []) (g11 : e3 11 = .vp r11 0) (g12 : e3 12 = aInt b) (g13 : e3 13 = .bool en)
    (hl : l = if t.kind = 1 then sl eAttr t.attrs else .emp) (hX : X = ⟨Tt, 7, [encA t l]⟩)
    (hK : ∀ (e' : Env) (h' : Heap) (m' : Nat), m' < s.length - p → RInv h0 s m' e' h' → K .normal e' h') : vc (Pg G) tailC K e3 (upd h2 r11 (some X)) := by
  have hm := mark_is hk hq
  have hle := mark_le hk hq
  simp only at hm hle
  have hro := accT_off A2 hr11
  have n11 := S2.none hr11
  subst hX
  refine tail_ok (G := G) (s := s) (a := E) (b := b) (sf := sf) (T := T') (t := t) (l := l) (en := en) g0 g4 g5 g6 g7 g11 g12 g13 (by omega) (A2.keepA hro _) (S2.upd n11) n11 (upd_same _ _ _) hl hro ?_
  intro e' h' out' q0 q4 q5 q6 q7 A' S'
  rw [readF, if_pos hE, hq] at hrd
  have hrd : readF s f (textEnd s b (rawOf t)) (T' ++ (putT t E b ++ textTok s b (rawOf t))) (if en = true ∧ t.kind ≠ 0 then b else sf) = readM s := hrd
  have e1 : putT t E b = [{ t with frm := E, til := b }] := if_neg hk0
  have e2 : (if en = true ∧ t.kind ≠ 0 then b else sf) = if en = true then b else sf := by
    cases en
    · rw [if_neg (by rintro ⟨q, _⟩; cases q), if_neg (by simp)]
    · rw [if_pos ⟨rfl, hk0⟩, if_pos rfl]
  rw [e1, e2, ← List.append_assoc] at hrd
  refine hK e' h' (s.length - b) (by omega) ⟨b, f, _, _, rawOf t, out', hle, rfl, q0, q4, q5, q6, q7, rawOf_len t, A', S', ?_, by omega, hrd⟩
  rw [List.length_append]; simp only [List.length_cons, List.length_nil]; omega
set_option maxHeartbeats 4000000 in
theorem refTokenRead_raw (h0 : Heap) {s : List UInt8} (hs : s.length ≤ 100000) : DCalls (Pg G) 9 [.str s] h0 (RReadK h0 s) := by
  have l0 := textEnd_le (s := s) (nm := []) (a := 0) (by omega)
  refine dcalls_of_vc Tryz.func9 hn9 hc9 (by rw [Tryz.ntmps9]; simp) (by rw [Tryz.ntmps9]; decide) ?_
  simp -dsimp -implicitDefEqProofs (disch := omega) only [VCA, c9]
  refine LoopVC.intro (RInv h0 s) s.length
    (by exact ⟨0, s.length + 1, 0, [], [], .emp, by omega, by omega, rfl, rfl, rfl, rfl, rfl, by decide, .nil, Sub.refl _, by simp, by omega, rfl⟩) ?_
  rintro m e h' ⟨p, f, sf, T, rw, out, hp, rfl, e0, e4, e5, e6, e7, hrw, A, S, hT, hf, hrd⟩
  obtain ⟨l1, l2⟩ := textEnd_le (nm := rw) hp
  have hkE := textEnd_kind (nm := rw) hp
  have tl := textTok_len s rw p
  obtain ⟨T', hT'⟩ : ∃ T', T ++ textTok s p rw = T' := ⟨_, rfl⟩
  rw [hT'] at hrd
  have hTl : T'.length ≤ 2 * p + 1 := by rw [← hT', List.length_append]; omega
  by_cases hlt : p < s.length
  · have hd : decide ((p : Int) < (s.length : Int)) = true := decide_eq_true (by omega)
    repeat' (first | ((with_reducible refine brC (fun _ => ?_) fun _ => ?_) <;> try (exfalso; omega)) | (with_reducible refine And.intro ?_ ?_; · omega) | simp -dsimp -implicitDefEqProofs (disch := omega) only [VCA, Nat.reduceEqDiff, ↓reduceIte, reduceCtorEq, e0, e5, hd])
    refine txt_ok (G := G) (s := s) (rw := rw) (j := p) ?_ ?_ ?_ hp (by omega) (by omega) ?_
    · simp [upd, e0]
    · simp [upd, e7]
    · simp [upd]
    intro e1 F1 f8
    have f0 : e1 0 = .str s := (F1 0 (by omega)).trans (by simp [upd, e0])
    have f4 : e1 4 = out := (F1 4 (by omega)).trans (by simp [upd, e4])
    have f5 : e1 5 = aInt p := (F1 5 (by omega)).trans (by simp [upd, e5])
    have f6 : e1 6 = aInt sf := (F1 6 (by omega)).trans (by simp [upd, e6])
    have f7 : e1 7 = .str rw := (F1 7 (by omega)).trans (by simp [upd, e7])
    refine txp_ok (G := G) (s := s) (rw := rw) (p := p) (T := T) f0 f4 f5 f7 f8 hp (by omega) (by omega) A S ?_
    intro e2 h2 out2 F2 g4 A2 S2
    rw [hT'] at A2
    obtain ⟨E, hE⟩ : ∃ E, textEnd s p rw = E := ⟨_, rfl⟩
    rw [hE] at hrd l1 l2 hkE f8
    have g0 : e2 0 = .str s := (F2 0 (by omega) (by omega)).trans f0
    have g6 : e2 6 = aInt sf := (F2 6 (by omega) (by omega)).trans f6
    have g8 : e2 8 = aInt E := (F2 8 (by omega) (by omega)).trans f8
    refine (?_ : vc (Pg G) restR _ e2 h2)
    rw [rest_eq]
    by_cases hEl : E < s.length
    · have be : ((E : Int) == (s.length : Int)) = false := by rw [beq_eq_false_iff_ne]; omega
      have hk := hkE hEl
      obtain ⟨f, rfl⟩ : ∃ g, f = g + 1 := ⟨f - 1, by omega⟩
      have cK := refKind_ok (G := G) s E hEl (by omega)
      rw [kindR_eq] at cK
      have hneg : decide ((-1 : Int) < 0) = true := rfl
      have k11 : ((1 : Int) == 1) = true := rfl
      have k21 : ((2 : Int) == 1) = false := rfl
      have k31 : ((3 : Int) == 1) = false := rfl
      have k22 : ((2 : Int) == 2) = true := rfl
      have k32 : ((3 : Int) == 2) = false := rfl
      have hro := fun {r : Nat} (hr : h2 r = none) => accT_off A2 hr
      obtain ⟨hb0, ha1, hc⟩ := kind_is hk
      repeat' (first | ((with_reducible refine brC (fun _ => ?_) fun _ => ?_) <;> try (exfalso; omega)) | (with_reducible refine And.intro ?_ ?_; · omega) | simp -dsimp -implicitDefEqProofs (disch := omega) only [VCA, Nat.reduceEqDiff, ↓reduceIte, reduceCtorEq, restR, rndC, cL, cR, cB, c9, g0, g8, be])
      intro r11 hr11
      rcases hc with hc | hc | hc | ⟨hc, ha2⟩
      · rw [hc, if_pos rfl] at cK
        have cT := fun h => refTag_ok (G := G) h (s := s) (a := E + 1) 1 (by omega) (by omega)
        have cT : ∀ h, DCalls (Pg G) 19 [.str s, .int .i64 ((E : Int) + 1), .int .i64 1] h _ := cT
        cases hq : tagM s (E + 1) with
        | some q =>
          have hmk : tkMark s E = some (⟨1, q.1, q.2.1, [], q.2.2.1, 0, 0⟩, true, q.2.2.2) := by unfold tkMark; rw [if_pos hc, hq]; rfl
          repeat' (first | ((with_reducible refine brC (fun _ => ?_) fun _ => ?_) <;> try (exfalso; omega)) | (with_reducible apply pcallE.of; · exact cK) | ((refine DCalls.of (cT _) ?_; rintro _ _ ⟨rfl, hr⟩; rw [hq] at hr; obtain rfl := hr)) | (with_reducible refine And.intro ?_ ?_; · omega) | simp -dsimp -implicitDefEqProofs (disch := omega) only [VCA, Nat.reduceEqDiff, Nat.reduceAdd, Nat.reduceLT, ↓reduceIte, reduceCtorEq, setAt, exists_eq_left', g0, k11])
          refine ⟨rfl, ?_⟩
          exact rnd_close (G := G) (s := s) (l := sl eAttr q.2.1) hs l1 hEl hk hmk (by show (1 : Int) ≠ 0; decide) hTl (by omega) hrd A2 S2 hr11 (by simp [upd, g0]) (by simp [upd, g4]) (by simp [upd]) (by simp [upd, g6]) (by simp [upd]) (by simp [upd]) (by simp [upd]) (by simp [upd]) rfl rfl (fun e' h' m' hm hi => by exact ⟨m', hm, hi⟩)
        | none =>
          have hmk : tkMark s E = none := by unfold tkMark; rw [if_pos hc, hq]; rfl
          repeat' (first | ((with_reducible refine brC (fun _ => ?_) fun _ => ?_) <;> try (exfalso; omega)) | (with_reducible apply pcallE.of; · exact cK) | ((refine DCalls.of (cT _) ?_; rintro _ _ ⟨rfl, hr⟩; rw [hq] at hr; obtain ⟨t, rfl⟩ := hr)) | (with_reducible refine And.intro ?_ ?_; · omega) | simp -dsimp -implicitDefEqProofs (disch := omega) only [VCA, Nat.reduceEqDiff, Nat.reduceAdd, Nat.reduceLT, ↓reduceIte, reduceCtorEq, setAt, exists_eq_left', g0, k11])
          refine ⟨rfl, ?_⟩
          rw [readF, if_pos hEl, hmk] at hrd
          repeat' (first | ((with_reducible refine brC (fun _ => ?_) fun _ => ?_) <;> try (exfalso; omega)) | (with_reducible refine And.intro ?_ ?_; · omega) | simp -dsimp -implicitDefEqProofs (disch := omega) only [VCA, Nat.reduceEqDiff, ↓reduceIte, reduceCtorEq, tailC, rndC, cL, cR, cB, c9, g4, g6, hneg])
          exact ⟨_, Sub.refl _, out2, by rw [← hrd]; exact A2.keepA (hro hr11) _, S2.upd (S2.none hr11), by rw [← hrd]⟩
      · rw [hc, if_neg (by decide), if_neg (by decide), if_neg (by decide)] at cK
        obtain ⟨t, en, b, hmk, hkd⟩ := mark_decl hk (by omega) (fun q => by omega)
        have cD := fun h => refDecl_at (G := G) h hk (by omega) (fun q => by omega) hmk (by omega)
        repeat' (first | ((with_reducible refine brC (fun _ => ?_) fun _ => ?_) <;> try (exfalso; omega)) | (with_reducible apply pcallE.of; · exact cK) | ((refine DCalls.of (cD _) ?_; rintro _ _ ⟨rfl, rfl⟩)) | (with_reducible refine And.intro ?_ ?_; · omega) | simp -dsimp -implicitDefEqProofs (disch := omega) only [↓vcOps_sp 117, ↓vcOps_sp 131, VCA, Nat.reduceEqDiff, Nat.reduceAdd, Nat.reduceLT, ↓reduceIte, reduceCtorEq, setAt, exists_eq_left', g0, k31, k32])
        refine ⟨rfl, ?_⟩
        exact rnd_close (G := G) (s := s) (l := .emp) hs l1 hEl hk hmk (by omega) hTl (by omega) hrd A2 S2 hr11 (by simp [upd, g0]) (by simp [upd, g4]) (by simp [upd]) (by simp [upd, g6]) (by simp [upd]) (by simp [upd]) (by simp [upd]) (by simp [upd]) (by rw [if_neg (by omega)]) rfl (fun e' h' m' hm hi => by exact ⟨m', hm, hi⟩)
      · rw [hc, if_neg (by decide), if_neg (by decide), if_neg (by decide)] at cK
        obtain ⟨t, en, b, hmk, hkd⟩ := mark_decl hk (by omega) (fun q => by omega)
        have cD := fun h => refDecl_at (G := G) h hk (by omega) (fun q => by omega) hmk (by omega)
        repeat' (first | ((with_reducible refine brC (fun _ => ?_) fun _ => ?_) <;> try (exfalso; omega)) | (with_reducible apply pcallE.of; · exact cK) | ((refine DCalls.of (cD _) ?_; rintro _ _ ⟨rfl, rfl⟩)) | (with_reducible refine And.intro ?_ ?_; · omega) | simp -dsimp -implicitDefEqProofs (disch := omega) only [↓vcOps_sp 117, ↓vcOps_sp 131, VCA, Nat.reduceEqDiff, Nat.reduceAdd, Nat.reduceLT, ↓reduceIte, reduceCtorEq, setAt, exists_eq_left', g0, k31, k32])
        refine ⟨rfl, ?_⟩
        exact rnd_close (G := G) (s := s) (l := .emp) hs l1 hEl hk hmk (by omega) hTl (by omega) hrd A2 S2 hr11 (by simp [upd, g0]) (by simp [upd, g4]) (by simp [upd]) (by simp [upd, g6]) (by simp [upd]) (by simp [upd]) (by simp [upd]) (by simp [upd]) (by rw [if_neg (by omega)]) rfl (fun e' h' m' hm hi => by exact ⟨m', hm, hi⟩)
      · rw [hc, if_neg (by decide), if_pos rfl] at cK
        obtain ⟨b, hb⟩ : ∃ b, s.getD (E + 2) 0 = b := ⟨_, rfl⟩
        have eb : bt s (E + 2) = b.toNat := by unfold bt; rw [hb]
        have cL' := refLetter_ok (G := G) b
        have tE : ((E : Int) + 2).toNat = E + 2 := by omega
        cases h62 : ((b.toNat : Int) == 62)
        · have h62' : bt s (E + 2) ≠ 62 := by rw [eb]; simpa using h62
          cases hlb : lettI (b.toNat : Int) <;> rw [hlb] at cL'
          · have q47 : kindM s E = 47 → bt s (E + 2) ≠ 62 ∧ lettI (bt s (E + 2)) = false := fun _ => ⟨h62', by rw [eb]; exact hlb⟩
            obtain ⟨t, en, b', hmk, hkd⟩ := mark_decl hk (by omega) q47
            have cD := fun h => refDecl_at (G := G) h hk (by omega) q47 hmk (by omega)
            repeat' (first | ((with_reducible refine brC (fun _ => ?_) fun _ => ?_) <;> try (exfalso; omega)) | (with_reducible apply pcallE.of; · exact cK) | (with_reducible apply pcallE.of; · exact cL') | ((refine DCalls.of (cD _) ?_; rintro _ _ ⟨rfl, rfl⟩)) | (with_reducible refine And.intro ?_ ?_; · omega) | simp -dsimp -implicitDefEqProofs (disch := omega) only [↓vcOps_sp 117, ↓vcOps_sp 131, VCA, Nat.reduceEqDiff, Nat.reduceAdd, Nat.reduceLT, ↓reduceIte, reduceCtorEq, setAt, exists_eq_left', g0, k21, k22, tE, hb, h62])
            refine ⟨rfl, ?_⟩
            exact rnd_close (G := G) (s := s) (l := .emp) hs l1 hEl hk hmk (by omega) hTl (by omega) hrd A2 S2 hr11 (by simp [upd, g0]) (by simp [upd, g4]) (by simp [upd]) (by simp [upd, g6]) (by simp [upd]) (by simp [upd]) (by simp [upd]) (by simp [upd]) (by rw [if_neg (by omega)]) rfl (fun e' h' m' hm hi => by exact ⟨m', hm, hi⟩)
          · have cT := fun h => refTag_ok (G := G) h (s := s) (a := E + 2) 2 (by omega) (by omega)
            have cT : ∀ h, DCalls (Pg G) 19 [.str s, .int .i64 ((E : Int) + 2), .int .i64 2] h _ := cT
            cases hq : tagM s (E + 2) with
            | some q =>
              have hmk : tkMark s E = some (⟨2, q.1, [], [], false, 0, 0⟩, true, q.2.2.2) := by
                unfold tkMark; rw [hc, if_neg (by decide), if_neg (by decide), if_neg (by decide), if_neg h62', eb, if_pos hlb, hq]; rfl
              repeat' (first | ((with_reducible refine brC (fun _ => ?_) fun _ => ?_) <;> try (exfalso; omega)) | (with_reducible apply pcallE.of; · exact cK) | (with_reducible apply pcallE.of; · exact cL') | ((refine DCalls.of (cT _) ?_; rintro _ _ ⟨rfl, hr⟩; rw [hq] at hr; obtain rfl := hr)) | (with_reducible refine And.intro ?_ ?_; · omega) | simp -dsimp -implicitDefEqProofs (disch := omega) only [↓vcOps_sp 117, ↓vcOps_sp 131, VCA, Nat.reduceEqDiff, Nat.reduceAdd, Nat.reduceLT, Nat.reduceLeDiff, ↓reduceIte, reduceCtorEq, setAt, exists_eq_left', g0, k21, k22, tE, hb, h62, eTok])
              exact rnd_close (G := G) (s := s) (l := .emp) hs l1 hEl hk hmk (by show (2 : Int) ≠ 0; decide) hTl (by omega) hrd A2 S2 hr11 (by simp [upd, g0]) (by simp [upd, g4]) (by simp [upd]) (by simp [upd, g6]) (by simp [upd]) (by simp [upd]) (by simp [upd]) (by simp [upd]) rfl rfl (fun e' h' m' hm hi => by exact ⟨m', hm, hi⟩)
            | none =>
              have hmk : tkMark s E = none := by
                unfold tkMark; rw [hc, if_neg (by decide), if_neg (by decide), if_neg (by decide), if_neg h62', eb, if_pos hlb, hq]; rfl
              repeat' (first | ((with_reducible refine brC (fun _ => ?_) fun _ => ?_) <;> try (exfalso; omega)) | (with_reducible apply pcallE.of; · exact cK) | (with_reducible apply pcallE.of; · exact cL') | ((refine DCalls.of (cT _) ?_; rintro _ _ ⟨rfl, hr⟩; rw [hq] at hr; obtain ⟨t, rfl⟩ := hr)) | (with_reducible refine And.intro ?_ ?_; · omega) | simp -dsimp -implicitDefEqProofs (disch := omega) only [↓vcOps_sp 117, ↓vcOps_sp 131, VCA, Nat.reduceEqDiff, Nat.reduceAdd, Nat.reduceLT, Nat.reduceLeDiff, ↓reduceIte, reduceCtorEq, setAt, exists_eq_left', g0, k21, k22, tE, hb, h62, eTok])
              rw [readF, if_pos hEl, hmk] at hrd
              repeat' (first | ((with_reducible refine brC (fun _ => ?_) fun _ => ?_) <;> try (exfalso; omega)) | (with_reducible refine And.intro ?_ ?_; · omega) | simp -dsimp -implicitDefEqProofs (disch := omega) only [VCA, Nat.reduceEqDiff, ↓reduceIte, reduceCtorEq, tailC, rndC, cL, cR, cB, c9, g4, g6, hneg])
              exact ⟨_, Sub.refl _, out2, by rw [← hrd]; exact A2.keepA (hro hr11) _, S2.upd (S2.none hr11), by rw [← hrd]⟩
        · have hmk : tkMark s E = some (tok0, true, E + 3) := by
            unfold tkMark; rw [hc, if_neg (by decide), if_neg (by decide), if_neg (by decide), if_pos (by rw [eb]; simpa using h62)]
          rw [readF, if_pos hEl, hmk] at hrd
          have hrd : readF s f (textEnd s (E + 3) []) (T' ++ ([] ++ textTok s (E + 3) [])) (if true = true ∧ (0 : Int) ≠ 0 then E + 3 else sf) = readM s := hrd
          rw [if_neg (by simp), List.nil_append] at hrd
          repeat' (first | ((with_reducible refine brC (fun _ => ?_) fun _ => ?_) <;> try (exfalso; omega)) | (with_reducible apply pcallE.of; · exact cK) | (with_reducible refine And.intro ?_ ?_; · omega) | simp -dsimp -implicitDefEqProofs (disch := omega) only [↓vcOps_sp 117, VCA, Nat.reduceEqDiff, ↓reduceIte, reduceCtorEq, g0, k21, k22, tE, hb, h62])
          exact ⟨s.length - (E + 3), by omega, E + 3, f, sf, T', [], out2, by omega, rfl, by simp [upd, g0], by simp [upd, g4], by simp [upd], by simp [upd, g6], by simp [upd], by decide, A2.keepA (hro hr11) _, S2.upd (S2.none hr11), by omega, by omega, hrd⟩
    · obtain rfl : E = s.length := by omega
      have be : ((s.length : Int) == (s.length : Int)) = true := by simp
      have hend : readF s f s.length T' sf = (T', sf) := by
        cases f with
        | zero => rfl
        | succ f => rw [readF, if_neg (by omega)]
      rw [hend] at hrd
      repeat' (first | ((with_reducible refine brC (fun _ => ?_) fun _ => ?_) <;> try (exfalso; omega)) | (with_reducible refine And.intro ?_ ?_; · omega) | simp -dsimp -implicitDefEqProofs (disch := omega) only [VCA, Nat.reduceEqDiff, ↓reduceIte, reduceCtorEq, restR, rndC, cL, cR, cB, c9, g0, g4, g6, g8, be])
      exact ⟨_, Sub.refl _, out2, by rw [← hrd]; exact A2, S2, by rw [← hrd]⟩
  · obtain rfl : p = s.length := by omega
    have hd : decide (((s.length : Nat) : Int) < (s.length : Int)) = false := decide_eq_false (by omega)
    have hend : textEnd s s.length rw = s.length := by omega
    have htt : textTok s s.length rw = [] := by unfold textTok; rw [if_neg (by omega)]
    have hT2 : T = T' := by rw [← hT', htt, List.append_nil]
    have hrf : readF s f s.length T' sf = (T', sf) := by
      cases f with
      | zero => rfl
      | succ f => rw [readF, if_neg (by omega)]
    rw [hend, hrf] at hrd
    repeat' (first | ((with_reducible refine brC (fun _ => ?_) fun _ => ?_) <;> try (exfalso; omega)) | (with_reducible refine And.intro ?_ ?_; · omega) | simp -dsimp -implicitDefEqProofs (disch := omega) only [VCA, Nat.reduceEqDiff, ↓reduceIte, reduceCtorEq, e0, e4, e5, e6, hd])
    exact ⟨_, Sub.refl _, out, by rw [← hrd, ← hT2]; exact A, S, by rw [← hrd]⟩
end Go.Proofs.K
end
section
set_option linter.unusedSimpArgs false
set_option linter.unusedVariables false
namespace Go.Proofs.K
open Go Go.Sim Go.Proofs
variable {G : Glob}
def AtOK (t : HTok) : Prop := t.kind = 1 ∨ t.attrs = []
theorem text_at (s rw : List UInt8) (a : Nat) : ∀ t ∈ textTok s a rw, AtOK t := fun t h => by
  unfold textTok at h
  split at h
  · simp only [List.mem_singleton] at h; subst h; exact .inr rfl
  · cases h
theorem mark_at {s : List UInt8} {a : Nat} {q : HTok × Bool × Nat} (h : tkMark s a = some q) : AtOK q.1 := by
  have hcom : ∀ (b : Nat) (w : List UInt8), AtOK (comM s b w).1 := fun b w => .inr rfl
  have hdec : ∀ b, AtOK (declM s b).1 := fun b => by
    unfold declM comM
    (repeat' split) <;> exact .inr rfl
  unfold tkMark at h
  split at h
  · cases ht : tagM s (a + 1) with
    | none => rw [ht] at h; cases h
    | some x => rw [ht] at h; cases h; exact .inl rfl
  · split at h
    · cases h; exact hdec _
    · split at h
      · cases h; exact hcom _ _
      · split at h
        · cases h; exact .inr rfl
        · split at h
          · cases ht : tagM s (a + 2) with
            | none => rw [ht] at h; cases h
            | some x => rw [ht] at h; cases h; exact .inr rfl
          · cases h; exact hcom _ _
theorem readF_at {s : List UInt8} : ∀ (f a : Nat) (out : List HTok) (sf : Nat), (∀ t ∈ out, AtOK t) → ∀ t ∈ (readF s f a out sf).1, AtOK t
  | 0, a, out, sf, h => h
  | f + 1, a, out, sf, h => by
    rw [readF]
    split
    · cases hq : tkMark s a with
      | none => exact h
      | some q =>
        obtain ⟨t, en, b⟩ := q
        refine readF_at f _ _ _ fun x hx => ?_
        rcases List.mem_append.1 hx with hx | hx
        · exact h x hx
        · rcases List.mem_append.1 hx with hx | hx
          · unfold putT at hx
            split at hx
            · cases hx
            · simp only [List.mem_singleton] at hx; subst hx; exact mark_at hq
          · exact text_at _ _ _ x hx
    · exact h
theorem readM_at (s : List UInt8) : ∀ t ∈ (readM s).1, AtOK t := readF_at _ _ _ _ (text_at _ _ _)
theorem encR_vw {H : Heap} : ∀ (T : List HTok), (∀ t ∈ T, AtOK t) → F2 (F2 (Vw H)) (T.map encR) (T.map eTok)
  | [], _ => .nil
  | t :: T, h => by
    refine .cons ?_ (encR_vw T fun x hx => h x (List.mem_cons_of_mem _ hx))
    unfold encR encA
    by_cases hk : t.kind = 1
    · rw [if_pos hk]; exact F2.refl .refl _
    · have ha : t.attrs = [] := (h t (List.mem_cons_self ..)).resolve_left hk
      have e : sl eAttr t.attrs = .slc [] := by rw [ha]; rfl
      rw [if_neg hk]
      unfold eTok
      rw [e]
      exact .cons (.refl _) (.cons (.refl _) (.cons .emp (.cons (.refl _) (.cons (.refl _) (.cons (.refl _) (.cons (.refl _) .nil))))))
theorem encR_acc {h h' : Heap} {T : List HTok} {a : AVal} (A : Acc h Tt 7 (T.map encR) a h') (hT : ∀ t ∈ T, AtOK t) : Vw (newH h h') a (sl eTok T) := by
  unfold sl
  rcases A with ⟨h1, rfl⟩ | ⟨r, h0, h1, rfl⟩
  · have : T = [] := by simpa using h1
    subst this; exact .emp
  · exact Vw.osl0 (by rw [newH_none h0]; exact h1) (by rw [List.length_map, List.length_map]) (Nat.le_refl _) (fun f hf => by obtain ⟨x, _, rfl⟩ := List.mem_map.1 hf; rfl) (by rw [List.take_length]; exact encR_vw T hT)
theorem refTokenRead_ok {s : List UInt8} (hs : s.length ≤ 100000) : PCalls (Pg G) 9 [.str s] (.tup [sl eTok (readM s).1, aInt (readM s).2]) := by
  refine PCalls.outV fun h => ?_
  refine (refTokenRead_raw h hs).mono fun r h' ⟨out, A, S, e⟩ => ?_
  subst e
  exact ⟨S, .tup' (.cons (encR_acc A (readM_at s)) (.cons (.refl _) .nil))⟩
theorem tagF_len {s : List UInt8} : ∀ (f c : Nat) (l : List HAttr) {q : List HAttr × Bool × Nat}, tagF s f c l = some q → q.1.length ≤ l.length + f
  | 0, c, l, q, h => by cases h
  | f + 1, c, l, q, h => by
    rw [tagF] at h
    split at h
    · split at h
      · cases h; simp only; omega
      · have h1 := tagF_len f _ _ h
        have h2 := addA_len l (attrT s (skipM gapStop s c)).1
        omega
    · cases h
def AtLen (N : Nat) (t : HTok) : Prop := t.attrs.length ≤ N
theorem mark_len {s : List UInt8} {a : Nat} {q : HTok × Bool × Nat} (h : tkMark s a = some q) : AtLen (s.length + 1) q.1 := by
  have hcom : ∀ (b : Nat) (w : List UInt8), AtLen (s.length + 1) (comM s b w).1 := fun b w => Nat.zero_le _
  have hdec : ∀ b, AtLen (s.length + 1) (declM s b).1 := fun b => by
    unfold declM comM
    (repeat' split) <;> exact Nat.zero_le _
  unfold tkMark at h
  split at h
  · cases ht : tagM s (a + 1) with
    | none => rw [ht] at h; cases h
    | some x =>
      rw [ht] at h; cases h
      unfold tagM at ht
      cases hh : tagF s (s.length + 1) (skipM tagStop s (a + 1)) [] with
      | none => rw [hh] at ht; cases ht
      | some y =>
        rw [hh] at ht; cases ht
        have := tagF_len _ _ _ hh
        simp only [List.length_nil] at this
        show y.1.length ≤ _
        omega
  · split at h
    · cases h; exact hdec _
    · split at h
      · cases h; exact hcom _ _
      · split at h
        · cases h; exact Nat.zero_le _
        · split at h
          · cases ht : tagM s (a + 2) with
            | none => rw [ht] at h; cases h
            | some x => rw [ht] at h; cases h; exact Nat.zero_le _
          · cases h; exact hcom _ _
theorem text_len (N : Nat) (s rw : List UInt8) (a : Nat) : ∀ t ∈ textTok s a rw, AtLen N t := fun t h => by
  unfold textTok at h
  split at h
  · simp only [List.mem_singleton] at h; subst h; exact Nat.zero_le _
  · cases h
theorem readF_len {s : List UInt8} : ∀ (f a : Nat) (out : List HTok) (sf : Nat), (∀ t ∈ out, AtLen (s.length + 1) t) → (∀ t ∈ (readF s f a out sf).1, AtLen (s.length + 1) t) ∧ (readF s f a out sf).1.length ≤ out.length + 2 * f
  | 0, a, out, sf, h => ⟨h, Nat.le_refl _⟩
  | f + 1, a, out, sf, h => by
    rw [readF]
    split
    · cases hq : tkMark s a with
      | none => exact ⟨h, by simp only; omega⟩
      | some q =>
        obtain ⟨t, en, b⟩ := q
        have l1 := putT_len t a b
        have l2 := textTok_len s (rawOf t) b
        obtain ⟨g1, g2⟩ := readF_len f (textEnd s b (rawOf t)) (out ++ (putT t a b ++ textTok s b (rawOf t))) (if en = true ∧ t.kind ≠ 0 then b else sf) fun x hx => by
          rcases List.mem_append.1 hx with hx | hx
          · exact h x hx
          · rcases List.mem_append.1 hx with hx | hx
            · unfold putT at hx
              split at hx
              · cases hx
              · simp only [List.mem_singleton] at hx; subst hx; exact mark_len hq
            · exact text_len _ _ _ _ x hx
        refine ⟨g1, ?_⟩
        simp only [List.length_append] at g2
        simp only
        omega
    · exact ⟨h, by simp only; omega⟩
theorem readM_len (s : List UInt8) : (∀ t ∈ (readM s).1, t.attrs.length ≤ s.length + 1) ∧ (readM s).1.length ≤ 2 * s.length + 3 := by
  obtain ⟨h1, h2⟩ := readF_len (s := s) (s.length + 1) (textEnd s 0 []) (textTok s 0 []) 0 (text_len _ _ _ _)
  have := textTok_len s [] 0
  exact ⟨h1, by unfold readM; omega⟩
def c22 : SFun := ⟨.seq (.reg [⟨some 2, .boxF 43 7 (.t 0), none⟩, ⟨some 3, .boxF 43 7 (.t 1), none⟩, ⟨some 4, .mv (.c (.bool false)), none⟩]) (.seq (.reg [⟨some 5, .fldA 0 (.t 2), none⟩, ⟨some 6, .ld 1 false (.t 5), none⟩, ⟨some 7, .fldA 0 (.t 3), none⟩, ⟨some 8, .ld 1 false (.t 7), none⟩, ⟨some 9, .bin .eql (.t 6) (.t 8), none⟩, ⟨some 10, .mv (.t 9), none⟩, ⟨some 11, .fldA 1 (.t 2), some (10, true)⟩, ⟨some 12, .ld 1 false (.t 11), some (10, true)⟩, ⟨some 13, .fldA 1 (.t 3), some (10, true)⟩, ⟨some 14, .ld 1 false (.t 13), some (10, true)⟩, ⟨some 15, .bin .eql (.t 12) (.t 14), some (10, true)⟩, ⟨some 16, .pick (.t 10) (.t 15) (.c (.bool false)), none⟩, ⟨some 17, .mv (.t 16), none⟩, ⟨some 18, .fldA 2 (.t 2), some (17, true)⟩, ⟨some 19, .ld 1 false (.t 18), some (17, true)⟩, ⟨some 20, .fldA 2 (.t 3), some (17, true)⟩, ⟨some 21, .ld 1 false (.t 20), some (17, true)⟩, ⟨some 22, .pcall 43 [.t 19, .t 21], some (17, true)⟩, ⟨some 23, .pick (.t 17) (.t 22) (.c (.bool false)), none⟩, ⟨some 24, .mv (.t 23), none⟩, ⟨some 25, .fldA 3 (.t 2), some (24, true)⟩, ⟨some 26, .ld 1 false (.t 25), some (24, true)⟩, ⟨some 27, .fldA 3 (.t 3), some (24, true)⟩, ⟨some 28, .ld 1 false (.t 27), some (24, true)⟩, ⟨some 29, .bin .eql (.t 26) (.t 28), some (24, true)⟩, ⟨some 30, .pick (.t 24) (.t 29) (.c (.bool false)), none⟩, ⟨some 31, .mv (.t 30), none⟩, ⟨some 32, .fldA 4 (.t 2), some (31, true)⟩, ⟨some 33, .ld 1 false (.t 32), some (31, true)⟩, ⟨some 34, .fldA 4 (.t 3), some (31, true)⟩, ⟨some 35, .ld 1 false (.t 34), some (31, true)⟩, ⟨some 36, .eqb false (.t 33) (.t 35), some (31, true)⟩, ⟨some 37, .pick (.t 31) (.t 36) (.c (.bool false)), none⟩, ⟨some 4, .mv (.t 37), none⟩]) .ret), [.tmp 4]⟩
theorem hc22 : toSF Tryz.prog {pure := [43]} Tryz.f22 = some c22 := by kernel_rfl
theorem hn22 : (Tryz.f22.name == "runtime.NumGoroutine") = false := by kernel_rfl
theorem refSameTok_ok (t : HTok) (hl : t.attrs.length ≤ 1073741824) : PCalls (Pg G) 22 [.agg (eTok t), .agg (eTok t)] (.bool true) := fun h => by
  have cA := sameA_ok (G := G) t.attrs t.attrs hl hl
  have ea : (t.attrs == t.attrs) = true := by simp
  rw [ea] at cA
  have n1 : (t.kind == t.kind) = true := by simp
  have n2 : (t.name == t.name) = true := by simp
  have n3 : (t.text == t.text) = true := by simp
  have n4 : (t.self == t.self) = true := by simp
  unfold eTok
  refine dcalls_of_vc Tryz.func22 hn22 hc22 (by rw [Tryz.ntmps22]; simp) (by rw [Tryz.ntmps22]; decide) ?_
  simp -dsimp -implicitDefEqProofs (disch := omega) only [↓vcOps_sp 10, VCA, Nat.reduceEqDiff, Nat.reduceAdd, Nat.reduceLeDiff, ↓reduceIte, c22]
  repeat' (first | ((with_reducible refine brC (fun _ => ?_) fun _ => ?_) <;> try (exfalso; omega)) | (with_reducible apply pcallE.of; · exact cA) | (with_reducible refine And.intro ?_ ?_; · omega) | simp -dsimp -implicitDefEqProofs (disch := omega) only [↓vcOps_sp 17, ↓vcOps_sp 24, ↓vcOps_sp 31, VCA, Nat.reduceEqDiff, Nat.reduceAdd, Nat.reduceLeDiff, ↓reduceIte, exists_eq_right, n1, n2, n3, n4])
  all_goals first | exact ⟨Sub.refl _, rfl⟩ | exact Sub.refl _ | trace_state
def c10 : SFun := ⟨.seq (.reg [⟨some 4, .mv (.c (.bool false)), none⟩]) (.seq (.seq (.reg [⟨some 6, .mv (.t 0), none⟩, ⟨some 7, .len (.t 6), none⟩, ⟨some 8, .mv (.t 1), none⟩, ⟨some 9, .len (.t 8), none⟩, ⟨some 10, .bin .neq (.t 7) (.t 9), none⟩]) (.cond (.t 10) (.seq (.reg [⟨some 4, .mv (.c (.bool false)), none⟩]) .ret) .skip)) (.seq (.seq (.reg [⟨some 5, .mv (.c (.int .i64 0)), none⟩]) (.block 0 (.loop (.seq (.seq (.reg [⟨some 11, .mv (.t 5), none⟩, ⟨some 12, .mv (.t 0), none⟩, ⟨some 13, .len (.t 12), none⟩, ⟨some 14, .bin .lss (.t 11) (.t 13), none⟩]) (.cond (.t 14) .skip (.exit 0))) (.seq (.block 1 (.seq (.dreg [(⟨some 17, .mv (.t 0), none⟩, none), (⟨some 18, .mv (.t 5), none⟩, none), (⟨some 19, .idxA 7 (.t 17) (.t 18), none⟩, none), (⟨some 20, .ld 7 true (.t 19), none⟩, none), (⟨some 21, .mv (.t 1), none⟩, none), (⟨some 22, .mv (.t 5), none⟩, none), (⟨some 23, .idxA 7 (.t 21) (.t 22), none⟩, none), (⟨some 24, .ld 7 true (.t 23), none⟩, none), (⟨some 25, .pcall 22 [.t 20, .t 24], none⟩, none), (⟨some 26, .un .not (.t 25), none⟩, none), (⟨some 27, .mv (.t 26), none⟩, none), (⟨some 28, .mv (.t 0), some (27, false)⟩, none), (⟨some 29, .mv (.t 5), some (27, false)⟩, none), (⟨some 30, .idxA 7 (.t 28) (.t 29), some (27, false)⟩, none), (⟨some 31, .fldA 5 (.t 30), some (27, false)⟩, none), (⟨some 32, .ld 1 false (.t 31), some (27, false)⟩, none), (⟨some 33, .mv (.t 1), some (27, false)⟩, none), (⟨some 34, .mv (.t 5), some (27, false)⟩, none), (⟨some 35, .idxA 7 (.t 33) (.t 34), some (27, false)⟩, none), (⟨some 36, .fldA 5 (.t 35), some (27, false)⟩, none), (⟨some 37, .ld 1 false (.t 36), some (27, false)⟩, none), (⟨some 38, .bin .neq (.t 32) (.t 37), some (27, false)⟩, none), (⟨some 39, .pick (.t 27) (.c (.bool true)) (.t 38), none⟩, none), (⟨some 40, .mv (.t 39), none⟩, none), (⟨some 41, .mv (.t 0), some (40, false)⟩, none), (⟨some 42, .mv (.t 5), some (40, false)⟩, none), (⟨some 43, .idxA 7 (.t 41) (.t 42), some (40, false)⟩, none), (⟨some 44, .fldA 6 (.t 43), some (40, false)⟩, none), (⟨some 45, .ld 1 false (.t 44), some (40, false)⟩, none), (⟨some 46, .mv (.t 1), some (40, false)⟩, none), (⟨some 47, .mv (.t 5), some (40, false)⟩, none), (⟨some 48, .idxA 7 (.t 46) (.t 47), some (40, false)⟩, none), (⟨some 49, .fldA 6 (.t 48), some (40, false)⟩, none), (⟨some 50, .ld 1 false (.t 49), some (40, false)⟩, none), (⟨some 51, .bin .neq (.t 45) (.t 50), some (40, false)⟩, none), (⟨some 52, .pick (.t 40) (.c (.bool true)) (.t 51), none⟩, none)]) (.cond (.t 52) (.seq (.reg [⟨some 4, .mv (.c (.bool false)), none⟩]) .ret) .skip))) (.reg [⟨some 15, .mv (.t 5), none⟩, ⟨some 16, .bin .add (.t 15) (.c (.int .i64 1)), none⟩, ⟨some 5, .mv (.t 16), none⟩])))))) (.seq (.reg [⟨some 4, .mv (.c (.bool true)), none⟩]) .ret))), [.tmp 4]⟩
theorem hc10 : toSF Tryz.prog {pure := [22]} Tryz.f10 = some c10 := by kernel_rfl
theorem hn10 : (Tryz.f10.name == "runtime.NumGoroutine") = false := by kernel_rfl
theorem refSameToks_ok (L : List HTok) (hL : L.length ≤ 1073741824) (ha : ∀ t ∈ L, t.attrs.length ≤ 1073741824) : PCalls (Pg G) 10 [sl eTok L, sl eTok L] (.bool true) := fun h => by
  unfold sl
  have ll : (L.map eTok).length = L.length := List.length_map ..
  have hb : ((L.length : Int) != (L.length : Int)) = false := by simp
  refine dcalls_of_vc Tryz.func10 hn10 hc10 (by rw [Tryz.ntmps10]; simp) (by rw [Tryz.ntmps10]; decide) ?_
  simp -dsimp -implicitDefEqProofs (disch := omega) only [VCA, Nat.reduceEqDiff, ↓reduceIte, reduceCtorEq, c10]
  repeat' (first | ((with_reducible refine brC (fun _ => ?_) fun _ => ?_) <;> try (exfalso; omega)) | (with_reducible refine And.intro ?_ ?_; · omega) | simp -dsimp -implicitDefEqProofs (disch := omega) only [VCA, hb])
  refine LoopVC.intro (fun m e h' => ∃ k : Nat, k ≤ L.length ∧ m = L.length - k ∧ e 0 = .slc (L.map eTok) ∧ e 1 = .slc (L.map eTok) ∧ e 5 = aInt k ∧ h' = h) L.length (by exact ⟨0, by omega, by omega, rfl, rfl, rfl, rfl⟩) ?_
  rintro m e h' ⟨k, hk, rfl, e0, e1, e5, rfl⟩
  by_cases hlt : k < L.length
  · have hat : (L.map eTok).getD k [] = eTok (nth L k) := getD_map_enc hlt
    have hmem := nth_mem' hlt
    obtain ⟨x, hx⟩ : ∃ x, nth L k = x := ⟨_, rfl⟩
    rw [hx] at hat hmem
    have cS := refSameTok_ok (G := G) x (ha x hmem)
    have hd : decide ((k : Int) < (L.length : Int)) = true := decide_eq_true (by omega)
    have n1 : (x.frm != x.frm) = false := by simp
    have n2 : (x.til != x.til) = false := by simp
    unfold eTok at cS
    repeat' (first | ((with_reducible refine brC (fun _ => ?_) fun _ => ?_) <;> try (exfalso; omega)) | (with_reducible apply pcallE.of; · exact cS) | (with_reducible refine And.intro ?_ ?_; · omega) | simp -dsimp -implicitDefEqProofs (disch := omega) only [↓vcD_sp 27, ↓vcD_sp 40, VCA, Nat.reduceEqDiff, Nat.reduceAdd, Nat.reduceLeDiff, ↓reduceIte, reduceCtorEq, rsOf, rootsOf, rootL, e0, e1, e5, hx, eTok, ll, hd, n1, n2])
    exact ⟨_, by omega, k + 1, by omega, rfl, by omega⟩
  · obtain rfl : k = L.length := by omega
    have hd : decide ((L.length : Int) < (L.length : Int)) = false := decide_eq_false (by omega)
    repeat' (first | ((with_reducible refine brC (fun _ => ?_) fun _ => ?_) <;> try (exfalso; omega)) | (with_reducible refine And.intro ?_ ?_; · omega) | simp -dsimp -implicitDefEqProofs (disch := omega) only [VCA, Nat.reduceEqDiff, ↓reduceIte, reduceCtorEq, exists_eq_right, e0, e5, ll, hd])
    exact Sub.refl _
def c6 : SFun := ⟨.seq (.reg [⟨some 2, .mv (.c (.int .i64 0)), none⟩, ⟨some 3, .mv (.c (.int .i64 0)), none⟩]) (.seq (.seq (.reg [⟨some 4, .mv (.t 0), none⟩, ⟨some 5, .lenS (.t 4), none⟩, ⟨some 6, .bin .gtr (.t 5) (.c (.int .i64 4000)), none⟩]) (.cond (.t 6) (.seq (.reg [⟨some 2, .mv (.c (.int .i64 0)), none⟩, ⟨some 3, .mv (.c (.int .i64 2)), none⟩]) .ret) .skip)) (.seq (.reg [⟨some 7, .mv (.t 0), none⟩, ⟨some 8, .call (.c (.fn 13 [] [])) [.t 7], none⟩, ⟨some 9, .fldA 0 (.t 8), none⟩, ⟨some 10, .fldA 2 (.t 9), none⟩, ⟨some 11, .ld 1 false (.t 10), none⟩, ⟨some 2, .mv (.t 11), none⟩, ⟨some 3, .mv (.c (.int .i64 0)), none⟩]) .ret)), [.tmp 2, .tmp 3]⟩
theorem hc6 : toSF Tryz.prog {} Tryz.f6 = some c6 := by kernel_rfl
theorem hn6 : (Tryz.f6.name == "runtime.NumGoroutine") = false := by kernel_rfl
theorem tokSafe_ok (hG : MaxLenOK G) {s : List UInt8} (hs : s.length ≤ 4000) (hD : DeclC G s) (hE : RawC G s) : PCalls (Pg G) 6 [.str s] (.tup [aInt (readM s).2, aInt 0]) := fun h => by
  refine dcalls_of_vc Tryz.func6 hn6 hc6 (by rw [Tryz.ntmps6]; simp) (by rw [Tryz.ntmps6]; decide) ?_
  simp -dsimp -implicitDefEqProofs (disch := omega) only [VCA, ↓reduceIte, reduceCtorEq, c6]
  repeat' (first | ((with_reducible refine brC (fun _ => ?_) fun _ => ?_) <;> try (exfalso; omega)) | ((refine DCalls.of (tokRead_ok (G := G) hG hs hD hE h) ?_; rintro _ h1 ⟨rb, a, rfl, hrb, R⟩)) | (with_reducible refine And.intro ?_ ?_; · omega) | simp -dsimp -implicitDefEqProofs (disch := omega) only [VCA, Nat.reduceEqDiff, Nat.reduceAdd, ↓reduceIte, reduceCtorEq, exists_eq_right_right])
  obtain ⟨out, A, S⟩ := R
  have g := has_at S
  unfold rdO at g
  repeat' (first | ((with_reducible refine brC (fun _ => ?_) fun _ => ?_) <;> try (exfalso; omega)) | (with_reducible refine And.intro ?_ ?_; · omega) | simp -dsimp -implicitDefEqProofs (disch := omega) only [VCA, Nat.reduceAdd, Nat.reduceLT, Nat.reduceLeDiff, exists_eq_left', g])
  exact fun r o hr => S r o (((Sub.refl h).upd hrb) r o hr)
theorem tokSafeBig_ok {s : List UInt8} (hs : 4000 < s.length) : PCalls (Pg G) 6 [.str s] (.tup [aInt 0, aInt 2]) := fun h => by
  refine dcalls_of_vc Tryz.func6 hn6 hc6 (by rw [Tryz.ntmps6]; simp) (by rw [Tryz.ntmps6]; decide) ?_
  simp -dsimp -implicitDefEqProofs (disch := omega) only [VCA, ↓reduceIte, reduceCtorEq, c6]
  repeat' (first | ((with_reducible refine brC (fun _ => ?_) fun _ => ?_) <;> try (exfalso; omega)) | (with_reducible refine And.intro ?_ ?_; · omega) | simp -dsimp -implicitDefEqProofs (disch := omega) only [VCA, Nat.reduceEqDiff, ↓reduceIte, exists_eq_right])
  exact Sub.refl _
def c3 : SFun := ⟨.seq (.reg [⟨some 2, .mv (.c (.bool false)), none⟩]) (.seq (.reg [⟨some 10, .mv (.t 0), none⟩, ⟨some 11, .pcall 5 [.t 10], none⟩, ⟨some 9, .mv (.t 11), none⟩, ⟨some 12, .ext (.t 9) 0, none⟩, ⟨some 13, .ext (.t 9) 1, none⟩, ⟨some 3, .mv (.t 12), none⟩, ⟨some 4, .mv (.t 13), none⟩]) (.seq (.reg [⟨some 15, .mv (.t 0), none⟩, ⟨some 16, .pcall 6 [.t 15], none⟩, ⟨some 14, .mv (.t 16), none⟩, ⟨some 17, .ext (.t 14) 0, none⟩, ⟨some 18, .ext (.t 14) 1, none⟩, ⟨some 5, .mv (.t 17), none⟩, ⟨some 6, .mv (.t 18), none⟩]) (.seq (.seq (.reg [⟨some 19, .mv (.t 0), none⟩, ⟨some 20, .lenS (.t 19), none⟩, ⟨some 21, .bin .gtr (.t 20) (.c (.int .i64 4000)), none⟩]) (.cond (.t 21) (.seq (.reg [⟨some 22, .pcall 7 [], none⟩, ⟨some 23, .mv (.t 22), none⟩, ⟨some 24, .mv (.t 4), some (23, true)⟩, ⟨some 25, .bin .eql (.t 24) (.c (.int .i64 2)), some (23, true)⟩, ⟨some 26, .pick (.t 23) (.t 25) (.c (.bool false)), none⟩, ⟨some 27, .mv (.t 26), none⟩, ⟨some 28, .mv (.t 6), some (27, true)⟩, ⟨some 29, .bin .eql (.t 28) (.c (.int .i64 2)), some (27, true)⟩, ⟨some 30, .pick (.t 27) (.t 29) (.c (.bool false)), none⟩, ⟨some 31, .mv (.t 30), none⟩, ⟨some 32, .mv (.t 3), some (31, true)⟩, ⟨some 33, .len (.t 32), some (31, true)⟩, ⟨some 34, .bin .eql (.t 33) (.c (.int .i64 0)), some (31, true)⟩, ⟨some 35, .pick (.t 31) (.t 34) (.c (.bool false)), none⟩, ⟨some 36, .mv (.t 35), none⟩, ⟨some 37, .mv (.t 5), some (36, true)⟩, ⟨some 38, .bin .eql (.t 37) (.c (.int .i64 0)), some (36, true)⟩, ⟨some 39, .pick (.t 36) (.t 38) (.c (.bool false)), none⟩, ⟨some 2, .mv (.t 39), none⟩]) .ret) .skip)) (.seq (.reg [⟨some 40, .mv (.t 0), none⟩, ⟨some 41, .pcall 8 [.t 40, .c (.int .i64 300)], none⟩, ⟨some 0, .mv (.t 41), none⟩]) (.seq (.reg [⟨some 43, .mv (.t 0), none⟩, ⟨some 44, .pcall 5 [.t 43], none⟩, ⟨some 42, .mv (.t 44), none⟩, ⟨some 45, .ext (.t 42) 0, none⟩, ⟨some 46, .ext (.t 42) 1, none⟩, ⟨some 3, .mv (.t 45), none⟩, ⟨some 4, .mv (.t 46), none⟩]) (.seq (.reg [⟨some 48, .mv (.t 0), none⟩, ⟨some 49, .pcall 6 [.t 48], none⟩, ⟨some 47, .mv (.t 49), none⟩, ⟨some 50, .ext (.t 47) 0, none⟩, ⟨some 51, .ext (.t 47) 1, none⟩, ⟨some 5, .mv (.t 50), none⟩, ⟨some 6, .mv (.t 51), none⟩]) (.seq (.reg [⟨some 53, .mv (.t 0), none⟩, ⟨some 54, .pcall 9 [.t 53], none⟩, ⟨some 52, .mv (.t 54), none⟩, ⟨some 55, .ext (.t 52) 0, none⟩, ⟨some 56, .ext (.t 52) 1, none⟩, ⟨some 7, .mv (.t 55), none⟩, ⟨some 8, .mv (.t 56), none⟩]) (.seq (.reg [⟨some 57, .pcall 7 [], none⟩, ⟨some 58, .mv (.t 57), none⟩, ⟨some 59, .mv (.t 4), some (58, true)⟩, ⟨some 60, .bin .eql (.t 59) (.c (.int .i64 0)), some (58, true)⟩, ⟨some 61, .pick (.t 58) (.t 60) (.c (.bool false)), none⟩, ⟨some 62, .mv (.t 61), none⟩, ⟨some 63, .mv (.t 6), some (62, true)⟩, ⟨some 64, .bin .eql (.t 63) (.c (.int .i64 0)), some (62, true)⟩, ⟨some 65, .pick (.t 62) (.t 64) (.c (.bool false)), none⟩, ⟨some 66, .mv (.t 65), none⟩, ⟨some 67, .mv (.t 3), some (66, true)⟩, ⟨some 68, .mv (.t 7), some (66, true)⟩, ⟨some 69, .pcall 10 [.t 67, .t 68], some (66, true)⟩, ⟨some 70, .pick (.t 66) (.t 69) (.c (.bool false)), none⟩, ⟨some 71, .mv (.t 70), none⟩, ⟨some 72, .mv (.t 5), some (71, true)⟩, ⟨some 73, .mv (.t 8), some (71, true)⟩, ⟨some 74, .bin .eql (.t 72) (.t 73), some (71, true)⟩, ⟨some 75, .pick (.t 71) (.t 74) (.c (.bool false)), none⟩, ⟨some 2, .mv (.t 75), none⟩]) .ret)))))))), [.tmp 2]⟩
theorem hc3 : toSF Tryz.prog {pure := [5, 6, 8, 7, 10, 9]} Tryz.f3 = some c3 := by kernel_rfl
theorem hn3 : (Tryz.f3.name == "runtime.NumGoroutine") = false := by kernel_rfl
theorem tokenReads_ok (hG : MaxLenOK G) (hC : CaseOK G) (s : List UInt8) (hs : s.length ≤ 1073741824) : PCalls (Pg G) 3 [.str s] (.bool true) := fun h => by
  have hE := eqF_ok (G := G) hC
  have h1 := tokenBegun_ok (G := G) hG
  by_cases hl : s.length ≤ 4000
  · have h0 : PCalls (Pg G) 8 [.str s, .int .i64 300] (.str (s.take 300)) := some_ok s 300 hs
    have h2 := tokReadAll_ok (G := G) hG hl (declared_ok hG hE s) (fun _ _ _ _ _ _ => hE)
    have h3 := tokSafe_ok (G := G) hG hl (declared_ok hG hE s) (fun _ _ _ _ _ _ => hE)
    have l3 : (s.take 300).length ≤ 300 := by rw [List.length_take]; omega
    obtain ⟨u, hu⟩ : ∃ u, s.take 300 = u := ⟨_, rfl⟩
    rw [hu] at l3 h0
    have h4 := tokReadAll_ok (G := G) hG (s := u) (by omega) (declared_ok hG hE u) (fun _ _ _ _ _ _ => hE)
    have h5 := tokSafe_ok (G := G) hG (s := u) (by omega) (declared_ok hG hE u) (fun _ _ _ _ _ _ => hE)
    have h6 := refTokenRead_ok (G := G) (s := u) (by omega)
    obtain ⟨r1, r2⟩ := readM_len u
    have h7 := refSameToks_ok (G := G) (readM u).1 (by omega) (fun t ht => by have := r1 t ht; omega)
    have hd : decide ((s.length : Int) > 4000) = false := decide_eq_false (by omega)
    have n1 : ((readM u).2 : Int) == ((readM u).2 : Int) := by simp
    obtain ⟨L, hL⟩ : ∃ L, sl eTok (readM u).1 = L := ⟨_, rfl⟩
    obtain ⟨L', hL'⟩ : ∃ L, sl eTok (readM s).1 = L := ⟨_, rfl⟩
    rw [hL'] at h2
    rw [hL] at h4 h6 h7
    refine dcalls_of_vc Tryz.func3 hn3 hc3 (by rw [Tryz.ntmps3]; simp) (by rw [Tryz.ntmps3]; decide) ?_
    simp -dsimp -implicitDefEqProofs (disch := omega) only [VCA, ↓reduceIte, reduceCtorEq, c3]
    repeat' (first | ((with_reducible refine brC (fun _ => ?_) fun _ => ?_) <;> try (exfalso; omega)) | (with_reducible apply pcallE.of; · exact h0) | (with_reducible apply pcallE.of; · exact h1) | (with_reducible apply pcallE.of; · exact h2) | (with_reducible apply pcallE.of; · exact h3) | (with_reducible apply pcallE.of; · exact h4) | (with_reducible apply pcallE.of; · exact h5) | (with_reducible apply pcallE.of; · exact h6) | (with_reducible apply pcallE.of; · exact h7) | (with_reducible refine And.intro ?_ ?_; · omega) | simp -dsimp -implicitDefEqProofs (disch := omega) only [↓vcOps_sp 58, ↓vcOps_sp 62, ↓vcOps_sp 66, ↓vcOps_sp 71, VCA, Nat.reduceEqDiff, Nat.reduceAdd, Nat.reduceLT, ↓reduceIte, reduceCtorEq, exists_eq_right, hd, n1])
    all_goals first | exact ⟨Sub.refl _, by simp⟩ | exact Sub.refl _ | trace_state
  · have h2 := tokReadBig_ok (G := G) (s := s) (by omega)
    have h3 := tokSafeBig_ok (G := G) (s := s) (by omega)
    have hd : decide ((s.length : Int) > 4000) = true := decide_eq_true (by omega)
    refine dcalls_of_vc Tryz.func3 hn3 hc3 (by rw [Tryz.ntmps3]; simp) (by rw [Tryz.ntmps3]; decide) ?_
    simp -dsimp -implicitDefEqProofs (disch := omega) only [VCA, ↓reduceIte, reduceCtorEq, c3]
    repeat' (first | ((with_reducible refine brC (fun _ => ?_) fun _ => ?_) <;> try (exfalso; omega)) | (with_reducible apply pcallE.of; · exact h1) | (with_reducible apply pcallE.of; · exact h2) | (with_reducible apply pcallE.of; · exact h3) | (with_reducible refine And.intro ?_ ?_; · omega) | simp -dsimp -implicitDefEqProofs (disch := omega) only [↓vcOps_sp 23, ↓vcOps_sp 27, ↓vcOps_sp 31, ↓vcOps_sp 36, VCA, Nat.reduceEqDiff, Nat.reduceAdd, Nat.reduceLT, ↓reduceIte, reduceCtorEq, exists_eq_right_right, hd])
    all_goals first | exact ⟨Sub.refl _, by simp⟩ | exact Sub.refl _ | trace_state
end Go.Proofs.K
end
