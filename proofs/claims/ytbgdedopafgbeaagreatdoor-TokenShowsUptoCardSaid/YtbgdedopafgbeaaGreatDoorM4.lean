/- Texts of this claim, one behind the other. -/
import Derived.Shelf.Strings.Builder1
import Derived.Shelf.Strings.Builder2
import Derived.Shelf.Strings.Trim
import Derived.Shelf.Small.Utf8
import Derived.Shelf.Small.Strs
import Derived.Shelf.Strings.BuilderF
import Derived.Shelf.Strings.Search1
import Derived.Shelf.Strings.Search2
import Derived.Shelf.Strings.Search3
import Derived.Shelf.Strings.Cut
import Derived.Shelf.Strings.Count
import Derived.Shelf.LaysM
import Derived.Shelf.Strings.Shaped
import Derived.Shelf.Strings.Prefix
import Derived.Shelf.Strings.Split
import Derived.Shelf.Strings.Replace
import Derived.Shelf.Strings.Fold
import Derived.Shelf.Unicode.Decode
import Derived.Shelf.Strings.Runes
import Derived.Shelf.Strings.IndexAny
import Derived.Shelf.Strings.AsciiSet
import Derived.Shelf.Strings.IndexAnyAll
import Derived.Shelf.Unicode.DecodeSlow
import Derived.Shelf.Unicode.DecodeAny
import Derived.Shelf.Unicode.CaseLookup
import Derived.Shelf.Unicode.CaseConvert
import Derived.Test.YtbgdedopafgbeaaGreatDoorProg
import Derived.Test.YtbgdedopafgbeaaGreatDoorM3
import Derived.KernelRfl
import Derived.Test.YtbgdedopafgbeaaGreatDoorRows
import Derived.WalkKit
import Derived.ProofKit
import Derived.OpenShut
import Derived.JoinedCond
import Derived.Lib.LaidU8T
import Derived.PinnedBridge
import Derived.Shelf.Vars
import Derived.Below
import Derived.Test.YtbgdedopafgbeaaGreatDoorCards
import Derived.Test.YtbgdedopafgbeaaGreatDoorTie
import Derived.Deep.DeepHandedRow
import Derived.MakeChecks
import Derived.Lib.LaidCaseMet
import Derived.Lib.LaidIn
import Derived.Deep.DeepWitnessRowRef
import Derived.Lib.RuneBytes
import Derived.Laws.BitsLemmas
import Derived.Lib.IndexMore
set_option maxHeartbeats 4000000
set_option maxRecDepth 100000
section
namespace Go.Proofs
open Go.Shelf
def Tryz.lays144_ren : Go.Shelf.Ren := ⟨fun | 144 => 47 | 143 => 66 | 219 => 83 | 217 => 102 | 225 => 103 | 224 => 104 | 267 => 105 | 266 => 119 | 314 => 120 | n => n, fun | 9 => 9 | 4 => 4 | 3 => 3 | 5 => 5 | 46 => 130 | 146 => 145 | 51 => 144 | n => n, fun | 1 => 0 | n => n⟩
theorem Tryz.lays144 : Go.Proofs.Lays.n144 Tryz.prog Tryz.lays144_ren := {
  mixed := by kernel_rfl
  f143 := Tryz.func66.trans (congrArg some (by kernel_rfl))
  f144 := Tryz.func47.trans (congrArg some (by kernel_rfl))
  f217 := Tryz.func102.trans (congrArg some (by kernel_rfl))
  f219 := Tryz.func83.trans (congrArg some (by kernel_rfl))
  f224 := Tryz.func104.trans (congrArg some (by kernel_rfl))
  f225 := Tryz.func103.trans (congrArg some (by kernel_rfl))
  f266 := Tryz.func119.trans (congrArg some (by kernel_rfl))
  f267 := Tryz.func105.trans (congrArg some (by kernel_rfl))
  f314 := Tryz.func120.trans (congrArg some (by kernel_rfl))
  t3 := Tryz.underlying3
  a3 := Tryz.isAgg3
  z3 := Tryz.sizeOf3
  v3 := Tryz.zeroValue3
  t4 := Tryz.underlying4
  a4 := Tryz.isAgg4
  z4 := Tryz.sizeOf4
  v4 := Tryz.zeroValue4
  t5 := Tryz.underlying5
  a5 := Tryz.isAgg5
  z5 := Tryz.sizeOf5
  v5 := Tryz.zeroValue5
  t9 := Tryz.underlying9
  a9 := Tryz.isAgg9
  z9 := Tryz.sizeOf9
  v9 := Tryz.zeroValue9
  t46 := Tryz.underlying130
  a46 := Tryz.isAgg130
  z46 := Tryz.sizeOf130
  v46 := Tryz.zeroValue130
  t51 := Tryz.underlying144
  a51 := Tryz.isAgg144
  z51 := Tryz.sizeOf144
  v51 := Tryz.zeroValue144
  t146 := Tryz.underlying145
  a146 := Tryz.isAgg145
  z146 := Tryz.sizeOf145
  v146 := Tryz.zeroValue145
  g1 := by kernel_rfl }
open Go.RowKit Go.Lib in
theorem Tryz.strings_Contains (s sub : ByteArray) (m : Int) (w : World) (hs : s.size < 4294967281) (hm : w.cell? ⟨0, 0, none⟩ = some (.int .i64 m)) :
    Calls Tryz.prog 47 #[.string s, .string sub] w fun e w' => e = .returned (.bool (Lib.contains s.data.toList sub.data.toList)) /\ w' = w := Any.strings_Contains Tryz.lays144 s sub m w hs hm
def Tryz.lays145_ren : Go.Shelf.Ren := ⟨fun | 145 => 88 | 220 => 113 | 219 => 83 | 217 => 102 | 225 => 103 | 224 => 104 | 267 => 105 | 266 => 119 | 314 => 120 | n => n, fun | 9 => 9 | 4 => 4 | 59 => 116 | 3 => 3 | 5 => 5 | 46 => 130 | 146 => 145 | 51 => 144 | n => n, fun | 1 => 0 | n => n⟩
theorem Tryz.lays145 : Go.Proofs.Lays.n145 Tryz.prog Tryz.lays145_ren := {
  mixed := by kernel_rfl
  f145 := Tryz.func88.trans (congrArg some (by kernel_rfl))
  f217 := Tryz.func102.trans (congrArg some (by kernel_rfl))
  f219 := Tryz.func83.trans (congrArg some (by kernel_rfl))
  f220 := Tryz.func113.trans (congrArg some (by kernel_rfl))
  f224 := Tryz.func104.trans (congrArg some (by kernel_rfl))
  f225 := Tryz.func103.trans (congrArg some (by kernel_rfl))
  f266 := Tryz.func119.trans (congrArg some (by kernel_rfl))
  f267 := Tryz.func105.trans (congrArg some (by kernel_rfl))
  f314 := Tryz.func120.trans (congrArg some (by kernel_rfl))
  t3 := Tryz.underlying3
  a3 := Tryz.isAgg3
  z3 := Tryz.sizeOf3
  v3 := Tryz.zeroValue3
  t4 := Tryz.underlying4
  a4 := Tryz.isAgg4
  z4 := Tryz.sizeOf4
  v4 := Tryz.zeroValue4
  t5 := Tryz.underlying5
  a5 := Tryz.isAgg5
  z5 := Tryz.sizeOf5
  v5 := Tryz.zeroValue5
  t9 := Tryz.underlying9
  a9 := Tryz.isAgg9
  z9 := Tryz.sizeOf9
  v9 := Tryz.zeroValue9
  t46 := Tryz.underlying130
  a46 := Tryz.isAgg130
  z46 := Tryz.sizeOf130
  v46 := Tryz.zeroValue130
  t51 := Tryz.underlying144
  a51 := Tryz.isAgg144
  z51 := Tryz.sizeOf144
  v51 := Tryz.zeroValue144
  t59 := Tryz.underlying116
  a59 := Tryz.isAgg116
  z59 := Tryz.sizeOf116
  v59 := Tryz.zeroValue116
  t146 := Tryz.underlying145
  a146 := Tryz.isAgg145
  z146 := Tryz.sizeOf145
  v146 := Tryz.zeroValue145
  g1 := by kernel_rfl }
open Go.RowKit Go.Lib in
theorem Tryz.strings_Cut (s sep : ByteArray) (m : Int) (w : World) (hs : s.size < 4294967281) (hm : w.cell? ⟨0, 0, none⟩ = some (.int .i64 m)) :
    Calls Tryz.prog 88 #[.string s, .string sep] w fun e w' => e = .returned (.tuple #[.string ⟨(Lib.cut s.data.toList sep.data.toList).1.toArray⟩, .string ⟨(Lib.cut s.data.toList sep.data.toList).2.1.toArray⟩, .bool (Lib.cut s.data.toList sep.data.toList).2.2]) /\ ∃ n, w' = w.drewN n := Any.strings_Cut Tryz.lays145 s sep m w hs hm
def Tryz.lays100_ren : Go.Shelf.Ren := ⟨fun | 100 => 78 | 207 => 96 | n => n, fun | 9 => 9 | 4 => 4 | 3 => 3 | n => n, fun | n => n⟩
theorem Tryz.lays100 : Go.Proofs.Lays.n100 Tryz.prog Tryz.lays100_ren := {
  mixed := by kernel_rfl
  f100 := Tryz.func78.trans (congrArg some (by kernel_rfl))
  f207 := Tryz.func96.trans (congrArg some (by kernel_rfl))
  t3 := Tryz.underlying3
  a3 := Tryz.isAgg3
  z3 := Tryz.sizeOf3
  v3 := Tryz.zeroValue3
  t4 := Tryz.underlying4
  a4 := Tryz.isAgg4
  z4 := Tryz.sizeOf4
  v4 := Tryz.zeroValue4
  t9 := Tryz.underlying9
  a9 := Tryz.isAgg9
  z9 := Tryz.sizeOf9
  v9 := Tryz.zeroValue9 }
open Go.RowKit Go.Lib in
theorem Tryz.strings_HasSuffix (s p : ByteArray) (w : World) (hs : s.size <= 9223372036854775807) :
    Calls Tryz.prog 78 #[.string s, .string p] w fun e w' => e = .returned (.bool (Lib.hasSuffix s.data.toList p.data.toList)) /\ w' = w := Any.strings_HasSuffix Tryz.lays100 s p w hs
def Tryz.lays155_ren : Go.Shelf.Ren := ⟨fun | 155 => 70 | 154 => 86 | 138 => 109 | 165 => 110 | 143 => 66 | 166 => 25 | 197 => 84 | 169 => 28 | 195 => 121 | 218 => 122 | 240 => 50 | 241 => 123 | 219 => 83 | 260 => 106 | 276 => 69 | 277 => 129 | 217 => 102 | 225 => 103 | 224 => 104 | 267 => 105 | 266 => 119 | 314 => 120 | n => n, fun | 9 => 9 | 3 => 3 | 4 => 4 | 72 => 61 | 0 => 0 | 76 => 66 | 105 => 112 | 21 => 21 | 5 => 5 | 70 => 58 | 20 => 20 | 37 => 59 | 75 => 65 | 127 => 89 | 164 => 102 | 46 => 130 | 119 => 147 | 139 => 150 | 138 => 149 | 146 => 145 | 51 => 144 | 80 => 70 | n => n, fun | 1 => 0 | 3 => 4 | 4 => 5 | n => n⟩
theorem Tryz.lays155 : Go.Proofs.Lays.n155 Tryz.prog Tryz.lays155_ren := {
  mixed := by kernel_rfl
  f138 := Tryz.func109.trans (congrArg some (by kernel_rfl))
  f143 := Tryz.func66.trans (congrArg some (by kernel_rfl))
  f154 := Tryz.func86.trans (congrArg some (by kernel_rfl))
  f155 := Tryz.func70.trans (congrArg some (by kernel_rfl))
  f165 := Tryz.func110.trans (congrArg some (by kernel_rfl))
  f166 := Tryz.func25.trans (congrArg some (by kernel_rfl))
  f169 := Tryz.func28.trans (congrArg some (by kernel_rfl))
  f195 := Tryz.func121.trans (congrArg some (by kernel_rfl))
  f197 := Tryz.func84.trans (congrArg some (by kernel_rfl))
  f217 := Tryz.func102.trans (congrArg some (by kernel_rfl))
  f218 := Tryz.func122.trans (congrArg some (by kernel_rfl))
  f219 := Tryz.func83.trans (congrArg some (by kernel_rfl))
  f224 := Tryz.func104.trans (congrArg some (by kernel_rfl))
  f225 := Tryz.func103.trans (congrArg some (by kernel_rfl))
  f240 := Tryz.func50.trans (congrArg some (by kernel_rfl))
  f241 := Tryz.func123.trans (congrArg some (by kernel_rfl))
  f260 := Tryz.func106.trans (congrArg some (by kernel_rfl))
  f266 := Tryz.func119.trans (congrArg some (by kernel_rfl))
  f267 := Tryz.func105.trans (congrArg some (by kernel_rfl))
  f276 := Tryz.func69.trans (congrArg some (by kernel_rfl))
  f277 := Tryz.func129.trans (congrArg some (by kernel_rfl))
  f314 := Tryz.func120.trans (congrArg some (by kernel_rfl))
  t0 := Tryz.underlying0
  a0 := Tryz.isAgg0
  z0 := Tryz.sizeOf0
  v0 := Tryz.zeroValue0
  t3 := Tryz.underlying3
  a3 := Tryz.isAgg3
  z3 := Tryz.sizeOf3
  v3 := Tryz.zeroValue3
  t4 := Tryz.underlying4
  a4 := Tryz.isAgg4
  z4 := Tryz.sizeOf4
  v4 := Tryz.zeroValue4
  t5 := Tryz.underlying5
  a5 := Tryz.isAgg5
  z5 := Tryz.sizeOf5
  v5 := Tryz.zeroValue5
  t9 := Tryz.underlying9
  a9 := Tryz.isAgg9
  z9 := Tryz.sizeOf9
  v9 := Tryz.zeroValue9
  t20 := Tryz.underlying20
  a20 := Tryz.isAgg20
  z20 := Tryz.sizeOf20
  v20 := Tryz.zeroValue20
  t21 := Tryz.underlying21
  a21 := Tryz.isAgg21
  z21 := Tryz.sizeOf21
  v21 := Tryz.zeroValue21
  t37 := Tryz.underlying59
  a37 := Tryz.isAgg59
  z37 := Tryz.sizeOf59
  v37 := Tryz.zeroValue59
  t46 := Tryz.underlying130
  a46 := Tryz.isAgg130
  z46 := Tryz.sizeOf130
  v46 := Tryz.zeroValue130
  t51 := Tryz.underlying144
  a51 := Tryz.isAgg144
  z51 := Tryz.sizeOf144
  v51 := Tryz.zeroValue144
  t70 := Tryz.underlying58
  a70 := Tryz.isAgg58
  z70 := Tryz.sizeOf58
  v70 := Tryz.zeroValue58
  t72 := Tryz.underlying61
  a72 := Tryz.isAgg61
  z72 := Tryz.sizeOf61
  v72 := Tryz.zeroValue61
  t75 := Tryz.underlying65
  a75 := Tryz.isAgg65
  z75 := Tryz.sizeOf65
  v75 := Tryz.zeroValue65
  t76 := Tryz.underlying66
  a76 := Tryz.isAgg66
  z76 := Tryz.sizeOf66
  v76 := Tryz.zeroValue66
  t105 := Tryz.underlying112
  a105 := Tryz.isAgg112
  z105 := Tryz.sizeOf112
  v105 := Tryz.zeroValue112
  t119 := Tryz.underlying147
  a119 := Tryz.isAgg147
  z119 := Tryz.sizeOf147
  t127 := Tryz.underlying89
  a127 := Tryz.isAgg89
  z127 := Tryz.sizeOf89
  v127 := Tryz.zeroValue89
  t138 := Tryz.underlying149
  a138 := Tryz.isAgg149
  z138 := Tryz.sizeOf149
  v138 := Tryz.zeroValue149
  t139 := Tryz.underlying150
  a139 := Tryz.isAgg150
  z139 := Tryz.sizeOf150
  v139 := Tryz.zeroValue150
  t146 := Tryz.underlying145
  a146 := Tryz.isAgg145
  z146 := Tryz.sizeOf145
  v146 := Tryz.zeroValue145
  t164 := Tryz.underlying102
  a164 := Tryz.isAgg102
  z164 := Tryz.sizeOf102
  v164 := Tryz.zeroValue102
  g1 := by kernel_rfl
  g3 := by kernel_rfl
  g4 := by kernel_rfl }
theorem Tryz.Builder_Extra_155 : Builder.Extra Tryz.prog Tryz.lays155_ren := {
  sizeBuilder := by kernel_rfl
  liesBuilder := by kernel_rfl
  t5 := Tryz.underlying5
  a5 := Tryz.isAgg5
  z5 := Tryz.sizeOf5
  v5 := Tryz.zeroValue5
  infoByte := by kernel_rfl
  cellsByte := by kernel_rfl
  sizeByte := by kernel_rfl
  neB5 := by decide }
open Go.RowKit Go.Lib in
theorem Tryz.strings_ReplaceAll (s old new : ByteArray) (m : Int) (w : World) (hs : s.size < 4294967281) (hm : w.cell? ⟨0, 0, none⟩ = some (.int .i64 m)) (h1 : 1 <= old.size) (hlen : s.size + Lib.countB s old * new.size <= 140737488355328) :
    Calls Tryz.prog 70 #[.string s, .string old, .string new] w fun e w' =>
      e = .returned (.string ⟨(Lib.replaceAll s.data.toList old.data.toList new.data.toList).toArray⟩) /\ Below w.heap.size w w' := Any.strings_ReplaceAll Tryz.lays155 Tryz.Builder_Extra_155 s old new m w hs hm h1 hlen
def Tryz.lays197_ren : Go.Shelf.Ren := ⟨fun | 197 => 84 | 260 => 106 | n => n, fun | 9 => 9 | 21 => 21 | 3 => 3 | 4 => 4 | 5 => 5 | 105 => 112 | 119 => 147 | 0 => 0 | 46 => 130 | 139 => 150 | 138 => 149 | n => n, fun | 3 => 4 | 4 => 5 | n => n⟩
theorem Tryz.lays197 : Go.Proofs.Lays.n197 Tryz.prog Tryz.lays197_ren := {
  mixed := by kernel_rfl
  f197 := Tryz.func84.trans (congrArg some (by kernel_rfl))
  f260 := Tryz.func106.trans (congrArg some (by kernel_rfl))
  t0 := Tryz.underlying0
  a0 := Tryz.isAgg0
  z0 := Tryz.sizeOf0
  v0 := Tryz.zeroValue0
  t3 := Tryz.underlying3
  a3 := Tryz.isAgg3
  z3 := Tryz.sizeOf3
  v3 := Tryz.zeroValue3
  t4 := Tryz.underlying4
  a4 := Tryz.isAgg4
  z4 := Tryz.sizeOf4
  v4 := Tryz.zeroValue4
  t5 := Tryz.underlying5
  a5 := Tryz.isAgg5
  z5 := Tryz.sizeOf5
  v5 := Tryz.zeroValue5
  t9 := Tryz.underlying9
  a9 := Tryz.isAgg9
  z9 := Tryz.sizeOf9
  v9 := Tryz.zeroValue9
  t21 := Tryz.underlying21
  a21 := Tryz.isAgg21
  z21 := Tryz.sizeOf21
  v21 := Tryz.zeroValue21
  t46 := Tryz.underlying130
  a46 := Tryz.isAgg130
  z46 := Tryz.sizeOf130
  v46 := Tryz.zeroValue130
  t105 := Tryz.underlying112
  a105 := Tryz.isAgg112
  z105 := Tryz.sizeOf112
  v105 := Tryz.zeroValue112
  t119 := Tryz.underlying147
  a119 := Tryz.isAgg147
  z119 := Tryz.sizeOf147
  t138 := Tryz.underlying149
  a138 := Tryz.isAgg149
  z138 := Tryz.sizeOf149
  v138 := Tryz.zeroValue149
  t139 := Tryz.underlying150
  a139 := Tryz.isAgg150
  z139 := Tryz.sizeOf150
  v139 := Tryz.zeroValue150
  g3 := by kernel_rfl
  g4 := by kernel_rfl }
open Go.RowKit Go.Lib in
theorem Tryz.utf8_DecodeRuneInString_ascii (s : ByteArray) (x : UInt8) (w : World) (h0 : s.data.toList[0]? = some x) (hx : x.toNat < 128) :
    Calls Tryz.prog 84 #[.string s] w fun e w' => e = .returned (.tuple #[.int .i32 x.toNat, .int .i64 1]) /\ w' = w := Any.utf8_DecodeRuneInString_ascii Tryz.lays197 s x w h0 hx
def Tryz.lays274_ren : Go.Shelf.Ren := ⟨fun | 274 => 107 | n => n, fun | 21 => 21 | 162 => 138 | 160 => 136 | 3 => 3 | 4 => 4 | 46 => 130 | 0 => 0 | 208 => 154 | 51 => 144 | 206 => 152 | n => n, fun | n => n⟩
theorem Tryz.lays274 : Go.Proofs.Lays.n274 Tryz.prog Tryz.lays274_ren := {
  mixed := by kernel_rfl
  f274 := Tryz.func107.trans (congrArg some (by kernel_rfl))
  t0 := Tryz.underlying0
  a0 := Tryz.isAgg0
  z0 := Tryz.sizeOf0
  v0 := Tryz.zeroValue0
  t3 := Tryz.underlying3
  a3 := Tryz.isAgg3
  z3 := Tryz.sizeOf3
  v3 := Tryz.zeroValue3
  t4 := Tryz.underlying4
  a4 := Tryz.isAgg4
  z4 := Tryz.sizeOf4
  v4 := Tryz.zeroValue4
  t21 := Tryz.underlying21
  a21 := Tryz.isAgg21
  z21 := Tryz.sizeOf21
  v21 := Tryz.zeroValue21
  t46 := Tryz.underlying130
  a46 := Tryz.isAgg130
  z46 := Tryz.sizeOf130
  v46 := Tryz.zeroValue130
  t51 := Tryz.underlying144
  a51 := Tryz.isAgg144
  z51 := Tryz.sizeOf144
  v51 := Tryz.zeroValue144
  t160 := Tryz.underlying136
  a160 := Tryz.isAgg136
  z160 := Tryz.sizeOf136
  v160 := Tryz.zeroValue136
  t162 := Tryz.underlying138
  a162 := Tryz.isAgg138
  z162 := Tryz.sizeOf138
  v162 := Tryz.zeroValue138
  t208 := Tryz.underlying154
  a208 := Tryz.isAgg154
  z208 := Tryz.sizeOf154
  v208 := Tryz.zeroValue154 }
end Go.Proofs
end
section
namespace Go.Proofs.K
open Go Go.Sim Go.Proofs
noncomputable abbrev Pg (G : JU) : PG := ⟨Tryz.prog, G⟩
theorem pg_gl (G : JU) : (Pg G).gl = G := rfl
end Go.Proofs.K
end
section
set_option linter.unusedSimpArgs false
set_option linter.unusedVariables false
namespace Go.Proofs.YtbgdedopafgbeaaGreatDoor
open Go Go.Sim Go.Proofs Go.ChangeShapes Go.WideShapes Go.ChangeAt Go.RowKit
theorem own : ownKnob Tryz.prog.godebug = none := by kernel_rfl
theorem bulkAll_mem {H : Type} {d : DataW H} {l : List (DataW H)} (h : d ∈ l) : Rows.uptoBulk d <= Rows.uptoBulkAll l := by
  induction l with
  | nil => cases h
  | cons x r ih =>
    simp only [Rows.uptoBulkAll]
    rcases List.mem_cons.1 h with e | e
    · subst e; omega
    · have := ih e; omega
theorem bulk_pos {H : Type} (d : DataW H) : 1 <= Rows.uptoBulk d := by
  cases d with
  | lit l => cases l <;> simp [Rows.uptoBulk]
  | _ => simp [Rows.uptoBulk]
theorem bulkAll_len {H : Type} (l : List (DataW H)) : l.length <= Rows.uptoBulkAll l := by
  induction l with
  | nil => simp [Rows.uptoBulkAll]
  | cons x r ih => have := bulk_pos x; simp only [Rows.uptoBulkAll, List.length_cons]; omega
theorem bulk (H : Type) : Bulk (Rows.uptoBulk (H := H)) where
  str l := by simp [Rows.uptoBulk]
  len es sp := by have := bulkAll_len es; simp only [Rows.uptoBulk]; omega
  elem es sp d h := by have := bulkAll_mem h; simp only [Rows.uptoBulk]; omega
  part ps d h := by have := bulkAll_mem h; simp only [Rows.uptoBulk]; omega
variable {H : Type} {enc : TypeId × Value -> H} {w : World}
theorem mStr : Mono (fun k (l : List UInt8) => l.length <= k) := fun _ _ _ h1 h2 => Nat.le_trans h2 h1
theorem mInt {k : IntKind} : Mono (fun (_ : Nat) (n : Int) => (Lit.int k n).wf = true) := fun _ _ _ _ h => h
theorem rInt : Rdr enc Tryz.prog w Rows.uptoBulk 3 eInt (fun _ n => (Lit.int .i64 n).wf = true) := Rdr.int Tryz.underlying3
theorem rBool : Rdr enc Tryz.prog w Rows.uptoBulk 4 (fun b : Bool => [.bool b]) (fun _ _ => True) := Rdr.bool Tryz.underlying4
theorem rStr : Rdr enc Tryz.prog w Rows.uptoBulk 9 (fun l : List UInt8 => [.str l]) (fun k l => l.length <= k) := Rdr.str (bulk H) Tryz.underlying9
end Go.Proofs.YtbgdedopafgbeaaGreatDoor
end
section
set_option linter.unusedSimpArgs false
set_option linter.unusedVariables false
namespace Go.Proofs.K
open Go Go.Sim Go.Proofs
theorem brNdec {A B : Prop} {p : Prop} [Decidable p] (h1 : ¬ p -> A) (h2 : p -> B) : Br (!decide p) A B .mk := ⟨fun h => h1 (by simpa using h), fun h => h2 (by simpa using h)⟩
theorem brNeq {A B : Prop} {α : Type} [BEq α] [LawfulBEq α] {a b : α} (h1 : a ≠ b -> A) (h2 : a = b -> B) : Br (!(a == b)) A B .mk := ⟨fun h => h1 (by simpa using h), fun h => h2 (by simpa using h)⟩
class BrC (t : Bool) (p q : outParam Prop) : Prop where
  pos : t = true -> p
  neg : t = false -> q
instance (priority := 100) brCi (t : Bool) : BrC t (t = true) (t = false) := ⟨id, id⟩
instance brCd (p : Prop) [Decidable p] : BrC (decide p) p (¬ p) := ⟨fun h => by simpa using h, fun h => by simpa using h⟩
instance brCe {α : Type} [BEq α] [LawfulBEq α] (a b : α) : BrC (a == b) (a = b) (a ≠ b) := ⟨fun h => by simpa using h, fun h => by simpa using h⟩
instance brCn {α : Type} [BEq α] [LawfulBEq α] (a b : α) : BrC (a != b) (a ≠ b) (a = b) := ⟨fun h => by simpa using h, fun h => by simpa using h⟩
instance brCf (p : Prop) [Decidable p] : BrC (!decide p) (¬ p) p := ⟨fun h => by simpa using h, fun h => by simpa using h⟩
instance brCg {α : Type} [BEq α] [LawfulBEq α] (a b : α) : BrC (!(a == b)) (a ≠ b) (a = b) := ⟨fun h => by simpa using h, fun h => by simpa using h⟩
theorem brC {A B : Prop} {t : Bool} {p q : Prop} [c : BrC t p q] (h1 : p -> A) (h2 : q -> B) : Br t A B .mk := ⟨fun h => h1 (c.pos h), fun h => h2 (c.neg h)⟩
theorem WJ {ty sz : Nat} {ps : List SX} {e : Env} {h : Q2} {K : AVal -> Q2 -> Prop} {w : Wit K} : Hd (litE ty sz ps e h) K w = (J4 sz e ps /\ ∀ r, h r = none -> K (.osl r sz 0 ps.length) (upd h r (some ⟨ty, sz, ps.map fun x => cellsOf (ev e x)⟩))) := rfl
theorem loopT {b : (SExit -> Env -> Q2 -> Prop) -> Env -> Q2 -> Prop} {Q : SExit -> Env -> Q2 -> Prop} {e : Env} {h : Q2} (J : SExit -> Env -> Q2 -> Prop) (I : Nat -> Env -> Q2 -> Prop) (m : Nat) (h0 : I m e h)
    (hr : ∀ (Q' : SExit -> Env -> Q2 -> Prop), (∀ x e h, J x e h -> Q' x e h) -> ∀ m e h, I m e h -> b (thenK (fun e' h' => ∃ m', m' < m /\ I m' e' h') Q') e h) (ht : ∀ x e h, J x e h -> Q x e h) : LoopVC b Q e h :=
  ⟨I, ⟨m, h0⟩, hr Q ht⟩
theorem W6 {α : Type} [Inhabited α] {l : List α} {k : Nat} (h : k < l.length) : nth l k ∈ l := List.mem_of_getElem? (V8 h)
theorem mem_nth {α : Type} [Inhabited α] {l : List α} {x : α} (h : x ∈ l) : ∃ k, k < l.length /\ nth l k = x := by
  obtain ⟨k, hk⟩ := List.mem_iff_getElem?.1 h
  have hl := (List.getElem?_eq_some_iff.1 hk).1
  have := V8 hl
  rw [hk] at this
  exact ⟨k, hl, (Option.some.inj this).symm⟩
theorem VY {α : Type} [Inhabited α] {l : List α} {j : Nat} (h : j < l.length) : l.take (j + 1) = l.take j ++ [nth l j] := by
  rw [List.take_add_one, V8 h]; rfl
def idxM {α : Type} (p : α -> Bool) (l : List α) : Int := match l.findIdx? p with | some i => i | none => -1
theorem idxM_some {α : Type} [Inhabited α] {p : α -> Bool} {l : List α} {k : Nat} (hk : k < l.length) (h1 : ∀ j, j < k -> p (nth l j) = false) (h2 : p (nth l k) = true) : idxM p l = k := by
  have hn : ∀ j (hj : j < l.length), l[j] = nth l j := fun j hj => by have := V8 hj; rw [List.getElem?_eq_getElem hj] at this; exact Option.some.inj this
  have : l.findIdx? p = some k := by
    rw [List.findIdx?_eq_some_iff_getElem]
    refine ⟨hk, by rw [hn k hk]; exact h2, fun j hj => ?_⟩
    rw [hn j (by omega), h1 j hj]; simp
  rw [idxM, this]
theorem idxM_none {α : Type} [Inhabited α] {p : α -> Bool} {l : List α} (h1 : ∀ j, j < l.length -> p (nth l j) = false) : idxM p l = -1 := by
  have hn : ∀ j (hj : j < l.length), l[j] = nth l j := fun j hj => by have := V8 hj; rw [List.getElem?_eq_getElem hj] at this; exact Option.some.inj this
  have : l.findIdx? p = none := by
    rw [List.findIdx?_eq_none_iff]
    intro x hx
    obtain ⟨j, hj, rfl⟩ := List.getElem_of_mem hx
    rw [hn j hj]; exact h1 j hj
  rw [idxM, this]
theorem idxM_any {α : Type} (p : α -> Bool) (l : List α) : decide (0 <= idxM p l) = l.any p := by
  unfold idxM
  cases h : l.findIdx? p with
  | none =>
    rw [List.findIdx?_eq_none_iff] at h
    have : l.any p = false := by rw [List.any_eq_false]; intro x hx; simp [h x hx]
    rw [this]; simp
  | some i =>
    have h2 : (l.findIdx? p).isSome = true := by rw [h]; rfl
    rw [List.findIdx?_isSome] at h2
    rw [h2]
    simp
theorem u8_all {p : UInt8 -> Bool} (h : ((List.range 256).all fun n => p (UInt8.ofNat n)) = true) (b : UInt8) : p b = true := by
  have := List.all_eq_true.1 h b.toNat (List.mem_range.2 b.toNat_lt)
  simpa using this
theorem snoc_ind {α : Type} {p : List α -> Prop} (h0 : p []) (h1 : ∀ l x, p l -> p (l ++ [x])) (l : List α) : p l := by
  rw [<- List.reverse_reverse l]
  induction l.reverse with
  | nil => exact h0
  | cons x r ih => rw [List.reverse_cons]; exact h1 _ _ ih
variable {G : JU}
def intsA (k : IntKind) (l : List Int) : List AVal := l.map fun x => .int k x
def firstL : List Int := (List.range 256).map fun c => (Lib.firstT c : Int)
def acceptL : List Int := (List.range 32).map fun i => if i % 2 = 0 then (Lib.accLo (i / 2) : Int) else Lib.accHi (i / 2)
theorem vrel_ints {w : World} {b : Nat} {k : IntKind} {l : List Int} (hl : l ≠ []) (h : ∀ (j : Nat) (x : Int), l[j]? = some x -> w.cell? ⟨b, j, none⟩ = some (.int k x)) : VRel (g0 w) w (.pointer (some ⟨b, 0, none⟩)) (.pin (intsA k l)) := by
  have e : ∀ j, Addr.add ⟨b, 0, none⟩ j = ⟨b, j, none⟩ := fun j => by unfold Addr.add; split <;> simp_all
  refine VRel.pin_mk rfl ?_ fun j a hj => ?_
  · show b < w.heap.size
    obtain ⟨x, r, rfl⟩ := List.exists_cons_of_ne_nil hl
    have h := h 0 x rfl
    unfold World.cell? at h
    split at h
    · rename_i c _ _ hc
      exact (Array.getElem?_eq_some_iff.1 hc).1
    · cases h
  · rw [intsA, List.getElem?_map, Option.map_eq_some_iff] at hj
    obtain ⟨x, hx, rfl⟩ := hj
    exact ⟨.int k x, by rw [e]; exact h j x hx, rfl, .int k x⟩
theorem dat_ints (k : IntKind) (l : List Int) : Dat (.pin (intsA k l)) := .pin _ fun c hc => by
  obtain ⟨x, _, rfl⟩ := List.mem_map.1 hc
  exact .int k x
theorem ofBelow {P : PG} {f : Nat} {ls : List AVal} {r : AVal} (hc : Callable P.p f)
    (h : ∀ (g : Ghost) (w : World) (vs : Array Value), GRel P.gl g w -> VRelL g w vs ls -> Calls P.p f vs w fun e w' => ∃ v, e = .returned v /\ RowKit.Below w.heap.size w w' /\ ∀ g' w', VRel g' w' v r) : PCalls P f ls r :=
  fun h0 => ⟨hc, fun g w vs H GR V => (h g w vs GR V).mono fun e w' ⟨v, he, hw, hv⟩ => by
    obtain ⟨S, H'⟩ := H.ext (w' := w') (fun b hb => hw.block b hb) hw.os hw.tape hw.output hw.size
    exact ⟨v, r, h0, g, he, ⟨rfl, rfl⟩, H', hv g w', S⟩⟩
end Go.Proofs.K
end
section
set_option linter.unusedSimpArgs false
set_option linter.unusedVariables false
namespace Go.Proofs.YtbgdedopafgbeaaGreatDoor
open Go Go.Sim Go.Proofs Go.Proofs.K Go.ChangeShapes Go.WideShapes Go.ChangeAt Go.RowKit Go.Shelf Go.Lib
noncomputable def lay8 (l : List Int) : Obj -> Obj
  | .cells _ t frozen => .cells (l.map fun x => Value.int .u8 x).toArray t frozen
  | o => o
def cellD : DataW Unit -> Value
  | .lit (.int k n) => .int k n
  | _ => .bool false
def cellsD : DataW Unit -> List Value
  | .agg l => l.map cellD
  | _ => []
def rowsD : DataW Unit -> List (List Value)
  | .slice l _ => l.map cellsD
  | _ => []
def putC (cs : Array Value) : Obj -> Obj
  | .cells _ t frozen => .cells cs t frozen
  | o => o
noncomputable def laidWorld5 (os : Os) : World :=
  let N := (World.settled Tryz.prog os).heap.size
  let w0 := World.holding Tryz.prog os ⟨#[.cells (rowsD Rows.laid_unicode_caseOrbit).flatten.toArray 135, .cells Lib.caseCells5 154], #[], []⟩
  { w0 with heap := ((((w0.heap.modify 4 (lay8 firstL)).modify 5 (lay8 acceptL)).modify 1 (putC (cellsD Rows.laid_unicode_asciiFold).toArray)).modify 2 (putC #[.slice (some ⟨N, 0, none⟩) (rowsD Rows.laid_unicode_caseOrbit).length (rowsD Rows.laid_unicode_caseOrbit).length])).modify 3 (putC #[.slice (some ⟨N + 1, 0, none⟩) 336 336]) }
noncomputable def W5 (os : Os) (args : Array Value) : World := ((laidWorld5 os).forCall (fun _ _ => 0) ⟨#[], args, []⟩).memory
noncomputable def N5 : Nat := (World.settled Tryz.prog default).heap.size
def cren : Ren := { Tryz.lays274_ren with g := fun | 13 => 3 | n => n }
theorem clays : Lays.n274 Tryz.prog cren := { Tryz.lays274 with }
theorem cextra : CaseExtra Tryz.prog cren := { n13 := by kernel_rfl, y13 := by kernel_rfl, c21 := by kernel_rfl, c51 := by kernel_rfl, c206 := by kernel_rfl, c208 := by kernel_rfl }
theorem c206u : Tryz.prog.underlying (cren.t 206) = some (.array 3 (cren.t 21)) := by kernel_rfl
theorem piece0 (os : Os) (args : Array Value) : LaidIn Tryz.prog (W5 os args) [("unicode/utf8.acceptRanges", Rows.laid_unicode_utf8_acceptRanges), ("unicode.asciiFold", Rows.laid_unicode_asciiFold), ("unicode.caseOrbit", Rows.laid_unicode_caseOrbit)] [5, 1, 2, N5] :=
  LaidIn.of_run _ 8 (by kernel_rfl) (by kernel_rfl) (by kernel_rfl) (by kernel_rfl)
theorem piece2 (os : Os) (args : Array Value) : LaidIn Tryz.prog (W5 os args) [("unicode/utf8.first", Rows.laid_unicode_utf8_first)] [4] :=
  LaidIn.of_run _ 8 (by kernel_rfl) (by kernel_rfl) (by kernel_rfl) (by kernel_rfl)
theorem w5_var (os : Os) (args : Array Value) : (W5 os args).heap[3]? = some (.cells #[.slice (some ⟨N5 + 1, 0, none⟩) caseA.size caseA.size] (cren.t 162) (0, 0)) := by kernel_rfl
theorem w5_blk (os : Os) (args : Array Value) : (W5 os args).heap[N5 + 1]? = some (.cells caseCells5 154 (0, 0)) := by kernel_rfl
theorem n5_ne : 3 ≠ N5 + 1 := of_decide_eq_true (by kernel_rfl)
theorem piece1 (os : Os) (args : Array Value) : LaidIn Tryz.prog (W5 os args) [("unicode.CaseRanges", Rows.laid_unicode_CaseRanges)] [3, N5 + 1] := by
  have hvar := w5_var os args
  have hblk := w5_blk os args
  generalize W5 os args = w at *
  have hT := caseTab_of_block hblk
  have hread := case_slice_reads clays c206u cextra hT caseA_wf (by rw [caseA_size]; unfold maxLen; omega) 0
  rw [case_rows_data] at hread
  have hd : Rows.laid_unicode_CaseRanges = DataW.slice (caseT.map rowData) [] := Pinned.caseRanges_eq
  rw [hd]
  have hv : w.var? Tryz.prog "unicode.CaseRanges" = some #[.slice (some ⟨N5 + 1, 0, none⟩) caseA.size caseA.size] := by
    have := cextra.n13
    simp only [World.var?]
    rw [this]
    simp only [Option.bind_some]
    rw [show cren.g 13 = 3 from rfl, hvar]
  have hf : MemPlace.row ⟨3, 0, none⟩ 1 ++ MemPlace.row ⟨N5 + 1, 0, none⟩ (caseA.size * 5) = [((⟨3, 0, none⟩ : Addr), 1), (⟨N5 + 1, 0, none⟩, caseA.size * 5)].flatMap fun r => MemPlace.row r.1 r.2 := by simp
  refine LaidIn.one (g := 3) (t := cren.t 162) (cs := #[.slice (some ⟨N5 + 1, 0, none⟩) caseA.size caseA.size]) (p := MemPlace.row ⟨N5 + 1, 0, none⟩ (caseA.size * 5)) _ cextra.n13 cextra.y13 hv hread ?_ ?_ ?_
  · show (MemPlace.row ⟨3, 0, none⟩ 1 ++ MemPlace.row ⟨N5 + 1, 0, none⟩ (caseA.size * 5)).Nodup
    rw [hf]
    exact rows_nodup _ (by simpa using n5_ne)
  · intro b off hp
    have hp : MemPlace.cell b off ∈ MemPlace.row ⟨3, 0, none⟩ 1 ++ MemPlace.row ⟨N5 + 1, 0, none⟩ (caseA.size * 5) := hp
    rcases List.mem_append.1 hp with hp | hp
    · obtain ⟨i, hi, e⟩ := MemPlace.mem_row.1 hp
      cases e
      refine ⟨⟨_, _, hvar⟩, fun u v hc => ?_⟩
      obtain rfl : i = 0 := by omega
      rw [Lib.cell_of_heap hvar] at hc
      simp at hc
    · obtain ⟨i, hi, e⟩ := MemPlace.mem_row.1 hp
      cases e
      refine ⟨⟨_, _, hblk⟩, fun u v hc => ?_⟩
      obtain ⟨c0, c1, c2, c3, c4⟩ := hT (i / 5) (by omega)
      have hi5 : 0 + i = 0 + i / 5 * 5 + i % 5 := by omega
      simp only at hc
      rw [hi5] at hc
      have hm : i % 5 < 5 := Nat.mod_lt _ (by omega)
      match hk : i % 5, hm with
      | 0, _ => rw [hk] at hc; have q := c0.symm.trans hc; cases q
      | 1, _ => rw [hk] at hc; have q := c1.symm.trans hc; cases q
      | 2, _ => rw [hk] at hc; have q := c2.symm.trans hc; cases q
      | 3, _ => rw [hk] at hc; have q := c3.symm.trans hc; cases q
      | 4, _ => rw [hk] at hc; have q := c4.symm.trans hc; cases q
  · intro x hx
    have hx : x ∈ MemPlace.row ⟨3, 0, none⟩ 1 ++ MemPlace.row ⟨N5 + 1, 0, none⟩ (caseA.size * 5) := hx
    rw [hf] at hx
    simpa using rows_block _ x hx
theorem laid5_met (os : Os) (args : Array Value) : laidMet Tryz.prog [("unicode/utf8.acceptRanges", Rows.laid_unicode_utf8_acceptRanges), ("unicode.asciiFold", Rows.laid_unicode_asciiFold), ("unicode.caseOrbit", Rows.laid_unicode_caseOrbit), ("unicode.CaseRanges", Rows.laid_unicode_CaseRanges), ("unicode/utf8.first", Rows.laid_unicode_utf8_first)] (W5 os args) :=
  (((piece0 os args).append (piece1 os args) (by kernel_rfl)).append (piece2 os args) (by kernel_rfl)).met
end Go.Proofs.YtbgdedopafgbeaaGreatDoor
end
section
set_option linter.unusedSimpArgs false
set_option linter.unusedVariables false
namespace Go.Proofs.K
open Go Go.Sim Go.Proofs
variable {G : JU}
structure HAttr where
  name : List UInt8
  value : List UInt8
deriving DecidableEq, Inhabited
def Z6 (a : HAttr) : List AVal := [.str a.name, .str a.value]
instance : LenE Z6 2 := ⟨fun _ => rfl⟩
def c53 : SFun := ⟨.seq (.reg [o 6 (.mv (.c (.bool false)))]) (.seq (.reg [o 7 (.mv (.t 0)), o 8 (.mv (.t 1)), o 9 (.bin .geq (.t 7) (.t 8)), o 10 (.mv (.t 9)), ⟨some 11, .mv (.t 0), some (10, true)⟩, ⟨some 12, .mv (.t 2), some (10, true)⟩, ⟨some 13, .bin .leq (.t 11) (.t 12), some (10, true)⟩, o 14 (.pick (.t 10) (.t 13) (.c (.bool false))), o 6 (.mv (.t 14))]) .ret), [.tmp 6]⟩
theorem hc53 : Y5 Tryz.prog {} Tryz.f53 = some c53 := by kernel_rfl
theorem QV (n a b : Int) : PCalls (Pg G) 53 [Q3 n, Q3 a, Q3 b] (.bool (decide (a <= n) && decide (n <= b))) := fun h => by
  refine Q1 Tryz.func53 (by kernel_rfl) hc53 (by rw [Tryz.ntmps53]; simp) (by rw [Tryz.ntmps53]; decide) ?_
  by_cases h1 : a <= n <;> by_cases h2 : n <= b <;> (
    simp -dsimp -implicitDefEqProofs (disch := omega) only [↓Q0 10, VCA, Nat.reduceEqDiff, ↓reduceIte, reduceCtorEq, exists_eq_right, c53, h1, h2, decide_true, decide_false, Bool.true_and, Bool.false_and]
    exact Sub.refl _)
end Go.Proofs.K
end
section
set_option linter.unusedSimpArgs false
set_option linter.unusedVariables false
namespace Go.Proofs.K
open Go Go.Sim Go.Proofs Go.Shelf
variable {G : JU}
def bren : Ren := ⟨fun | 240 => 50 | 276 => 69 | n => n, fun | 37 => 59 | 0 => 0 | 4 => 4 | 9 => 9 | 20 => 20 | 70 => 58 | 72 => 61 | 164 => 102 | n => n, fun n => n⟩
theorem lays240 : Lays.n240 Tryz.prog bren := {
  mixed := by kernel_rfl
  f240 := Tryz.func50.trans (congrArg some (by kernel_rfl))
  f276 := Tryz.func69.trans (congrArg some (by kernel_rfl))
  t0 := Tryz.underlying0
  a0 := Tryz.isAgg0
  z0 := Tryz.sizeOf0
  v0 := Tryz.zeroValue0
  t4 := Tryz.underlying4
  a4 := Tryz.isAgg4
  z4 := Tryz.sizeOf4
  v4 := Tryz.zeroValue4
  t9 := Tryz.underlying9
  a9 := Tryz.isAgg9
  z9 := Tryz.sizeOf9
  v9 := Tryz.zeroValue9
  t20 := Tryz.underlying20
  a20 := Tryz.isAgg20
  z20 := Tryz.sizeOf20
  v20 := Tryz.zeroValue20
  t70 := Tryz.underlying58
  a70 := Tryz.isAgg58
  z70 := Tryz.sizeOf58
  v70 := Tryz.zeroValue58
  t72 := Tryz.underlying61
  a72 := Tryz.isAgg61
  z72 := Tryz.sizeOf61
  v72 := Tryz.zeroValue61
  t164 := Tryz.underlying102
  a164 := Tryz.isAgg102
  z164 := Tryz.sizeOf102
  v164 := Tryz.zeroValue102 }
theorem x72 : Builder.X72 Tryz.prog bren := {
  sizeBuilder := by kernel_rfl
  liesBuilder := by kernel_rfl }
abbrev Tb : Nat := 61
abbrev Tu : Nat := 5
def BP (rb : Nat) (p : AVal) : Prop := p = .prim (.pointer none) \/ p = .vp rb 0
theorem prim_inv {g : Ghost} {w : World} {u v : Value} (h : VRel g w u (.prim v)) : u = v := by cases h; rfl
theorem copyCheck_ok (rb : Nat) (h : Q2) (p buf : AVal) (hp : BP rb p) (hr : h rb = some ⟨Tb, 2, [[p, buf]]⟩) {K : AVal -> Q2 -> Prop} (hk : K (.tup []) (upd h rb (some ⟨Tb, 2, [[.vp rb 0, buf]]⟩))) :
    DCalls (Pg G) 50 [.vp rb 0] h K := by
  refine ⟨⟨_, Tryz.func50, by kernel_rfl, by kernel_rfl⟩, fun g w vs H GR V => ?_⟩
  obtain ⟨v, rfl, hv⟩ := V.one_inv
  obtain ⟨hlt, ⟨hb, hc⟩, rfl⟩ := hv.vp_inv
  have O := H.obj rb _ hr
  rcases O.block with h0 | ⟨hl, hf, cur, hcur, hsz, hcell⟩
  · omega
  obtain ⟨lo, hi, hq, hlh⟩ := id hcur
  have hcs : cur.size = 2 := by have h1 : g.bo rb + g.cap rb * 2 = cur.size := hsz; omega
  obtain ⟨u, hu, ho, hvu⟩ := hcell 0 0 _ p rfl rfl
  obtain ⟨u2, hu2, ho2, hvu2⟩ := hcell 0 1 _ buf rfl rfl
  simp only [hb] at hu hu2
  have hw0 : w.cell? ⟨g.eta rb, 0, none⟩ = some u := by
    rw [hcur.cell]; exact hu
  rcases hp with rfl | rfl
  · rw [prim_inv hvu] at hw0
    refine (Any.Builder_copyCheck_fresh lays240 x72 (g.eta rb) w hw0 ?_ ?_).mono ?_
    · simp only [World.shape?, hq]; show some (Tb, cur.size) = some (Tb, 2); rw [hcs]
    · simp [World.frozen?, hq]; omega
    · rintro e w' ⟨rfl, rfl⟩
      rw [setCell_eq_setRow w _ _ cur _ _ _ hq]
      obtain ⟨S, H'⟩ := root_write H hr hcur (by omega) (cur.setIfInBounds 0 (.pointer (some ⟨g.eta rb, 0, none⟩))) (by simp) (es' := [[.vp rb 0, buf]]) (by simp) (by simp; omega) (fun i j e x he hx => by
        cases i with
        | succ i => simp at he
        | zero =>
          simp at he; subst he
          cases j with
          | zero => simp at hx; subst hx; exact ⟨_, by simp [hb, hcs], rfl, .vp rb 0 hlt hb hc⟩
          | succ j =>
            cases j with
            | zero => simp at hx; subst hx; exact ⟨u2, by simpa [hb] using hu2, ho2, hvu2⟩
            | succ j => simp at hx)
      exact ⟨_, _, _, g, rfl, hk, H', .tup #[] [] rfl (fun j u a hu => by simp at hu), S⟩
  · obtain ⟨_, _, hu'⟩ := hvu.vp_inv
    rw [hu'] at hw0
    refine (Any.Builder_copyCheck_used lays240 x72 (g.eta rb) w hw0).mono ?_
    rintro e w' ⟨rfl, rfl⟩
    have : upd h rb (some ⟨Tb, 2, [[.vp rb 0, buf]]⟩) = h := XK hr
    rw [this] at hk
    exact ⟨_, _, h, g, rfl, hk, H, .tup #[] [] rfl (fun j u a hu => by simp at hu), GS.refl g _⟩
def Bl (h0 : Q2) (rb : Nat) (s : List UInt8) (h : Q2) : Prop := h0 rb = none /\ ∃ p buf, BP rb p /\ (buf ≠ .emp -> s ≠ []) /\ Acc (upd h0 rb (some ⟨Tb, 2, [[p, buf]]⟩)) Tu 1 (Z2 s) buf h /\ Sub (upd h0 rb (some ⟨Tb, 2, [[p, buf]]⟩)) h
theorem acc_at {h0 h : Q2} {rb ty sz : Nat} {x y : AObj} {cells : List (List AVal)} {a : AVal} (A : Acc (upd h0 rb (some x)) ty sz cells a h) : Acc (upd h0 rb (some y)) ty sz cells a (upd h rb (some y)) := by
  rcases A with h | ⟨r, h1, h2, h3⟩
  · exact .inl h
  · have hne : r ≠ rb := by rintro rfl; simp at h1
    refine .inr ⟨r, ?_, ?_, h3⟩
    · unfold Sim.upd at h1 ⊢; simpa [hne] using h1
    · unfold Sim.upd; simpa [hne] using h2
theorem sub_at {h0 h : Q2} {rb : Nat} {x y : AObj} (S : Sub (upd h0 rb (some x)) h) : Sub (upd h0 rb (some y)) (upd h rb (some y)) := by
  intro t o ht
  by_cases hne : t = rb
  · subst hne; simpa [Sim.upd] using ht
  · have := S t o (by simpa [Sim.upd, hne] using ht)
    simpa [Sim.upd, hne] using this
theorem sub_is {h0 h : Q2} {rb : Nat} {x : AObj} (S : Sub (upd h0 rb (some x)) h) : h rb = some x := S rb x (by simp [Sim.upd])
theorem sub_off {h0 h : Q2} {rb : Nat} {x : AObj} (h1 : h0 rb = none) (S : Sub (upd h0 rb (some x)) h) : Sub h0 h := by
  intro t o ht
  have hne : t ≠ rb := by rintro rfl; rw [h1] at ht; cases ht
  exact S t o (by simpa [Sim.upd, hne] using ht)
theorem Bl.new (h : Q2) (rb : Nat) (h0 : h rb = none) : Bl h rb [] (upd h rb (some ⟨Tb, 2, [[.prim (.pointer none), .emp]]⟩)) :=
  ⟨h0, _, _, .inl rfl, fun h => absurd rfl h, Acc.nil, Sub.refl _⟩
theorem Bl.sub {h0 h : Q2} {rb : Nat} {s : List UInt8} (B : Bl h0 rb s h) : Sub h0 h := by
  obtain ⟨h1, p, buf, _, _, _, S⟩ := B
  exact sub_off h1 S
def c25 : SFun := ⟨.seq (.reg [o 4 (.mv (.c (.int .i64 0))), o 5 (.mv (.c (.prim .nilIface)))]) (.seq (.reg [o 6 (.mv (.t 0)), o 7 (.call (.c (.fn 50 [] [])) [.t 6])]) (.seq (.reg [o 8 (.mv (.t 0)), o 9 (.mv (.t 0)), o 10 (.fldA 0 (.t 9)), o 11 (.fldA 1 (.t 10)), o 12 (.ld 1 false (.t 11)), o 13 (.mv (.t 1)), o 14 (.appS 5 1 (.t 12) (.t 13)), o 15 (.fldA 0 (.t 8)), o 16 (.fldA 1 (.t 15)), ⟨none, .st 1 (.t 16) (.t 14), none⟩]) (.seq (.reg [o 17 (.mv (.t 1)), o 18 (.lenS (.t 17)), o 4 (.mv (.t 18)), o 5 (.mv (.c (.prim .nilIface)))]) .ret))), [.tmp 4, .tmp 5]⟩
theorem hc25 : Y5 Tryz.prog {} Tryz.f25 = some c25 := by kernel_rfl
theorem writeString_ok {h0 h : Q2} {rb : Nat} {s : List UInt8} (t : List UInt8) (B : Bl h0 rb s h) (hs : s.length + t.length <= 140737488355328) :
    DCalls (Pg G) 25 [.vp rb 0, .str t] h fun a h' => a = .tup [Q3 t.length, .prim .nilIface] /\ Bl h0 rb (s ++ t) h' := by
  obtain ⟨hn, p, buf, hp, hnb, A, S⟩ := B
  refine Q1 Tryz.func25 (by kernel_rfl) hc25 (by rw [Tryz.ntmps25]; simp) (by rw [Tryz.ntmps25]; decide) ?_
  simp -dsimp -implicitDefEqProofs (disch := omega) only [VCA, ↓reduceIte, reduceCtorEq, c25]
  refine copyCheck_ok rb h p buf hp (sub_is S) ?_
  simp -dsimp -implicitDefEqProofs (disch := omega) only [VCA, Nat.reduceEqDiff, Nat.reduceAdd, Nat.reduceLT, ↓reduceIte, reduceCtorEq, Z3, exists_eq_left']
  by_cases he : buf = .emp /\ t = []
  · obtain ⟨rfl, rfl⟩ := he
    refine .inl ⟨rfl, rfl, ?_⟩
    simp -dsimp -implicitDefEqProofs (disch := omega) only [VCA]
    exact ⟨_, Sub.refl _, hn, _, _, .inr rfl, fun q => absurd rfl q, by simpa using acc_at A, sub_at S⟩
  have hne : s ++ t ≠ [] := fun q => by
    obtain ⟨rfl, rfl⟩ := List.append_eq_nil_iff.1 q
    exact he ⟨Classical.byContradiction fun q => hnb q rfl, rfl⟩
  refine .inr ((acc_at A).app (sub_at S) (by simp [Z2]; omega) (by simp [Z2]; omega) fun a' h3 A' S' => ?_)
  obtain ⟨hv, hc⟩ : isV a' = true /\ cellsOf a' = [a'] := by
    rcases A' with ⟨_, rfl⟩ | ⟨r, _, _, rfl⟩ <;> exact ⟨rfl, rfl⟩
  simp -dsimp -implicitDefEqProofs (disch := omega) only [VCA, Nat.reduceEqDiff, Nat.reduceAdd, Nat.reduceLT, ↓reduceIte, Z3, exists_eq_left', sub_is S', hv, hc]
  exact ⟨_, Sub.refl _, hn, _, _, .inr rfl, fun _ => hne, by simpa [Z2] using acc_at A', sub_at S'⟩
def c28 : SFun := ⟨.seq (.reg [o 2 (.mv (.c (.str [])))]) (.seq (.dreg [(o 3 (.mv (.t 0)), none), (o 4 (.fldA 0 (.t 3)), none), (o 5 (.fldA 1 (.t 4)), none), (o 6 (.ld 1 false (.t 5)), none), (o 8 (.mv (.t 0)), none), (o 9 (.fldA 0 (.t 8)), none), (o 10 (.fldA 1 (.t 9)), none), (o 11 (.ld 1 false (.t 10)), none), (o 12 (.len (.t 11)), none), (o 7 (.usd (.t 6)), (some [6])), (o 13 (.ustr 5 (.t 7) (.t 12)), (some [6, 11])), (o 2 (.mv (.t 13)), none)]) .ret), [.tmp 2]⟩
theorem hc28 : Y5 Tryz.prog {} Tryz.f28 = some c28 := by kernel_rfl
theorem string_ok {h0 h : Q2} {rb : Nat} {s : List UInt8} (B : Bl h0 rb s h) (hs : s.length < 140737488355328) :
    DCalls (Pg G) 28 [.vp rb 0] h fun a h' => a = .str s /\ Sub h0 h' := by
  obtain ⟨hn, p, buf, hp, hne, A, S⟩ := B
  refine Q1 Tryz.func28 (by kernel_rfl) hc28 (by rw [Tryz.ntmps28]; simp) (by rw [Tryz.ntmps28]; decide) ?_
  rcases A with ⟨he, rfl⟩ | ⟨r, h1, h2, rfl⟩
  · have hs0 : s = [] := by simpa [Z2] using he
    subst hs0
    simp -dsimp -implicitDefEqProofs (disch := omega) only [VCA, Nat.reduceEqDiff, Nat.reduceBEq, Nat.reduceAdd, Nat.reduceLT, ↓reduceIte, reduceCtorEq, Y8, Q7, SOp.rd, SI.rd, SX.rd, implies_true, exists_eq_left', J1, c28, sub_is S]
    exact ⟨_, Sub.refl _, sub_off hn S⟩
  · have hs1 : s ≠ [] := hne (by intro h; cases h)
    have hs2 : 0 < s.length := List.length_pos_iff.2 hs1
    have h1' : h0 r = none /\ r ≠ rb := by
      have hne : r ≠ rb := by rintro rfl; simp at h1
      exact ⟨by simpa [Sim.upd, hne] using h1, hne⟩
    simp -dsimp -implicitDefEqProofs (disch := omega) only [VCA, Nat.reduceEqDiff, Nat.reduceBEq, Nat.reduceAdd, Nat.reduceLT, ↓reduceIte, reduceCtorEq, Y8, Q7, SOp.rd, SI.rd, SX.rd, implies_true, ne_eq, exists_eq_left', J1, c28, sub_is S]
    have hl : (Z2 s).length = s.length := by simp [Z2]
    refine ⟨by omega, s, _, h2, rfl, rfl, by simp [Z2], List.take_of_length_le (by simp [Z2]), by simp [Z2], hs1, by omega, ?_⟩
    simp -dsimp -implicitDefEqProofs (disch := omega) only [VCA]
    first
      | exact ⟨_, Sub.refl _, Sub.del (sub_off hn S) h1'.1⟩
      | (refine ⟨?_, _, Sub.refl _, Sub.del (sub_off hn S) h1'.1⟩; rw [<- sub_is S]; simp [Sim.del, Ne.symm h1'.2])
theorem TV {r : Int} (h0 : 0 <= r) (h2 : r <= 2147483647) : IntKind.u32.wrap r = r := by
  simp [IntKind.wrap, IntKind.bits, IntKind.signed]; omega
theorem u32_neg {r : Int} (h0 : r < 0) (h1 : -2147483648 <= r) : IntKind.u32.wrap r = r + 4294967296 := by
  simp [IntKind.wrap, IntKind.bits, IntKind.signed]; omega
theorem YU (r : Int) : Z2 (Lib.encodeRune r) = (Lib.encodeRuneZ r).map fun x => [.int .u8 x] := by
  have h := Lib.encodeRuneZ_byte r
  simp only [Z2, Lib.encodeRune, List.map_map]
  refine List.map_congr_left fun x hx => ?_
  obtain ⟨h0, h1⟩ := h x hx
  simp only [Function.comp, List.cons.injEq, AVal.int.injEq, and_true, true_and]
  have : x.toNat.toUInt8.toNat = x.toNat := by simp; omega
  rw [this]; omega
theorem f128 (x : Int) : T3 .or .u8 128 (T3 .and .u8 (IntKind.u8.wrap x) 63) = 128 + x % 64 := by
  rw [IntKind.wrap_u8]
  have h1 : T3 .and .u8 (x % 256) 63 = x % 256 % 64 := u8_and63 _ (by omega) (by omega)
  have h2 : T3 .or .u8 128 (x % 256 % 64) = 128 + x % 256 % 64 := u8_or128 _ (by omega) (by omega)
  rw [h1, h2]; omega
theorem f192 {x : Int} (h0 : 0 <= x) (h1 : x < 32) : T3 .or .u8 192 (IntKind.u8.wrap x) = 192 + x := by
  rw [IntKind.wrap_u8, Int.emod_eq_of_lt h0 (by omega)]; exact u8_or192 _ h0 h1
theorem f224 {x : Int} (h0 : 0 <= x) (h1 : x < 16) : T3 .or .u8 224 (IntKind.u8.wrap x) = 224 + x := by
  rw [IntKind.wrap_u8, Int.emod_eq_of_lt h0 (by omega)]; exact u8_or224 _ h0 h1
theorem f240 {x : Int} (h0 : 0 <= x) (h1 : x < 8) : T3 .or .u8 240 (IntKind.u8.wrap x) = 240 + x := by
  rw [IntKind.wrap_u8, Int.emod_eq_of_lt h0 (by omega)]; exact u8_or240 _ h0 h1
theorem fd6 (x : Int) : x.fdiv 64 = x / 64 := Int.fdiv_eq_ediv_of_nonneg _ (by omega)
theorem fd12 (x : Int) : x.fdiv 4096 = x / 4096 := Int.fdiv_eq_ediv_of_nonneg _ (by omega)
theorem fd18 (x : Int) : x.fdiv 262144 = x / 262144 := Int.fdiv_eq_ediv_of_nonneg _ (by omega)
def c134 : SFun := ⟨.seq (.reg [o 4 (.mv (.c .emp))]) (.seq (.reg [o 6 (.mv (.t 1)), o 7 (.cvi .u32 (.t 6)), o 5 (.mv (.t 7))]) (.block 0 (.seq (.reg [o 12 (.mv (.t 5)), o 13 (.bin .leq (.t 12) (.c (.int .u32 2047))), o 11 (.mv (.t 13))]) (.cond (.t 11) (.seq (.reg [o 14 (.mv (.t 0)), o 15 (.mv (.t 1)), o 16 (.bin .shr (.t 15) (.c (.int .u64 6))), o 17 (.cvi .u8 (.t 16)), o 18 (.bin .or (.c (.int .u8 192)) (.t 17)), o 19 (.mv (.t 1)), o 20 (.cvi .u8 (.t 19)), o 21 (.bin .and (.t 20) (.c (.int .u8 63))), o 22 (.bin .or (.c (.int .u8 128)) (.t 21)), o 23 (.bldF 5 1 [.t 18, .t 22]), o 24 (.app 5 1 1 (.t 14) (.t 23)), o 4 (.mv (.t 24))]) .ret) (.seq (.seq (.reg [o 26 (.mv (.t 5)), o 27 (.bin .lss (.t 26) (.c (.int .u32 55296))), o 25 (.mv (.t 27))]) (.cond (.t 25) .skip (.reg [o 28 (.mv (.t 5)), o 29 (.bin .lss (.c (.int .u32 57343)) (.t 28)), o 30 (.mv (.t 29)), ⟨some 31, .mv (.t 5), some (30, true)⟩, ⟨some 32, .bin .leq (.t 31) (.c (.int .u32 65535)), some (30, true)⟩, o 33 (.pick (.t 30) (.t 32) (.c (.bool false))), o 25 (.mv (.t 33))]))) (.cond (.t 25) (.seq (.reg [o 34 (.mv (.t 0)), o 35 (.mv (.t 1)), o 36 (.bin .shr (.t 35) (.c (.int .u64 12))), o 37 (.cvi .u8 (.t 36)), o 38 (.bin .or (.c (.int .u8 224)) (.t 37)), o 39 (.mv (.t 1)), o 40 (.bin .shr (.t 39) (.c (.int .u64 6))), o 41 (.cvi .u8 (.t 40)), o 42 (.bin .and (.t 41) (.c (.int .u8 63))), o 43 (.bin .or (.c (.int .u8 128)) (.t 42)), o 44 (.mv (.t 1)), o 45 (.cvi .u8 (.t 44)), o 46 (.bin .and (.t 45) (.c (.int .u8 63))), o 47 (.bin .or (.c (.int .u8 128)) (.t 46)), o 48 (.bldF 5 1 [.t 38, .t 43, .t 47]), o 49 (.app 5 1 1 (.t 34) (.t 48)), o 4 (.mv (.t 49))]) .ret) (.seq (.reg [o 51 (.mv (.t 5)), o 52 (.bin .gtr (.t 51) (.c (.int .u32 65535))), o 53 (.mv (.t 52)), ⟨some 54, .mv (.t 5), some (53, true)⟩, ⟨some 55, .bin .leq (.t 54) (.c (.int .u32 1114111)), some (53, true)⟩, o 56 (.pick (.t 53) (.t 55) (.c (.bool false))), o 50 (.mv (.t 56))]) (.cond (.t 50) (.seq (.reg [o 57 (.mv (.t 0)), o 58 (.mv (.t 1)), o 59 (.bin .shr (.t 58) (.c (.int .u64 18))), o 60 (.cvi .u8 (.t 59)), o 61 (.bin .or (.c (.int .u8 240)) (.t 60)), o 62 (.mv (.t 1)), o 63 (.bin .shr (.t 62) (.c (.int .u64 12))), o 64 (.cvi .u8 (.t 63)), o 65 (.bin .and (.t 64) (.c (.int .u8 63))), o 66 (.bin .or (.c (.int .u8 128)) (.t 65)), o 67 (.mv (.t 1)), o 68 (.bin .shr (.t 67) (.c (.int .u64 6))), o 69 (.cvi .u8 (.t 68)), o 70 (.bin .and (.t 69) (.c (.int .u8 63))), o 71 (.bin .or (.c (.int .u8 128)) (.t 70)), o 72 (.mv (.t 1)), o 73 (.cvi .u8 (.t 72)), o 74 (.bin .and (.t 73) (.c (.int .u8 63))), o 75 (.bin .or (.c (.int .u8 128)) (.t 74)), o 76 (.bldF 5 1 [.t 61, .t 66, .t 71, .t 75]), o 77 (.app 5 1 1 (.t 57) (.t 76)), o 4 (.mv (.t 77))]) .ret) (.seq (.reg [o 8 (.mv (.t 0)), o 9 (.bldF 5 1 [.c (.int .u8 239), .c (.int .u8 191), .c (.int .u8 189)]), o 10 (.app 5 1 1 (.t 8) (.t 9)), o 4 (.mv (.t 10))]) .ret))))))))), [.tmp 4]⟩
theorem hc134 : Y5 Tryz.prog {} Tryz.f134 = some c134 := by kernel_rfl
theorem appNon_ok {h0 h : Q2} {cells : List (List AVal)} {a : AVal} (r : Int) (A : Acc h0 Tu 1 cells a h) (S : Sub h0 h) (hr : r < 0 \/ 127 < r) (h1 : -2147483648 <= r) (h2 : r <= 2147483647) (hs : cells.length + 4 <= 140737488355328) :
    DCalls (Pg G) 134 [a, .int .i32 r] h fun a' h' => Acc h0 Tu 1 (cells ++ Z2 (Lib.encodeRune r)) a' h' /\ Sub h0 h' := by
  refine Q1 Tryz.func134 (by kernel_rfl) hc134 (by rw [Tryz.ntmps134]; simp) (by rw [Tryz.ntmps134]; decide) ?_
  have e6 : (2 : Int) ^ (min 6 IntKind.i32.bits) = 64 := rfl
  have e12 : (2 : Int) ^ (min 12 IntKind.i32.bits) = 4096 := rfl
  have e18 : (2 : Int) ^ (min 18 IntKind.i32.bits) = 262144 := rfl
  rcases (by omega : r < 0 \/ (128 <= r /\ r <= 2047) \/ (2048 <= r /\ r < 55296) \/ (55296 <= r /\ r <= 57343) \/ (57343 < r /\ r <= 65535) \/ (65536 <= r /\ r <= 1114111) \/ 1114111 < r) with hc | hc | hc | hc | hc | hc | hc
  · have hw : IntKind.u32.wrap r = r + 4294967296 := u32_neg (by omega) h1
    have d1 : decide ((r + 4294967296) <= 2047) = false := by simp; omega
    have d2 : decide ((r + 4294967296) < 55296) = false := by simp; omega
    have d3 : decide (57343 < (r + 4294967296)) = true := by simp; omega
    have d4 : decide ((r + 4294967296) <= 65535) = false := by simp; omega
    have d5 : decide (65535 < (r + 4294967296)) = true := by simp; omega
    have d6 : decide ((r + 4294967296) <= 1114111) = false := by simp; omega
    simp -dsimp -implicitDefEqProofs (disch := omega) only [↓Q0 30, ↓Q0 53, VCA, Nat.reduceEqDiff, ↓reduceIte, reduceCtorEq, J4, c134, hw, d1, d2, d3, d4, d5, d6]
    refine ⟨_, ⟨rfl, by intro e he; rcases he with rfl | rfl | rfl <;> rfl⟩, ?_⟩
    refine A.app S (by simp; omega) (by simp; omega) fun a' h3 A' S' => ?_
    simp -dsimp -implicitDefEqProofs (disch := omega) only [VCA, ↓reduceIte]
    refine ⟨_, Sub.refl _, ?_, S'⟩
    rw [YU, Lib.encodeRuneZ_bad (.inl hc)]
    simpa using A'
  · have hw : IntKind.u32.wrap r = r := TV (by omega) h2
    have d1 : decide (r <= 2047) = true := by simp; omega
    simp -dsimp -implicitDefEqProofs (disch := omega) only [VCA, Nat.reduceEqDiff, ↓reduceIte, reduceCtorEq, J4, c134, hw, d1]
    refine ⟨by omega, _, ⟨rfl, by intro e he; simp at he; rcases he with rfl | rfl <;> rfl⟩, ?_⟩
    refine A.app S (by simp; omega) (by simp; omega) fun a' h3 A' S' => ?_
    simp -dsimp -implicitDefEqProofs (disch := omega) only [VCA, ↓reduceIte]
    refine ⟨_, Sub.refl _, ?_, S'⟩
    rw [YU, Lib.encodeRuneZ_two hc.1 hc.2]
    simp only [f128] at A'
    simpa [fd6, fd12, fd18, e6, e12, e18, f192 (x := r / 64) (by omega) (by omega)] using A'
  · have hw : IntKind.u32.wrap r = r := TV (by omega) h2
    have d1 : decide (r <= 2047) = false := by simp; omega
    have d2 : decide (r < 55296) = true := by simp; omega
    simp -dsimp -implicitDefEqProofs (disch := omega) only [VCA, Nat.reduceEqDiff, ↓reduceIte, reduceCtorEq, J4, c134, hw, d1, d2]
    refine ⟨by omega, by omega, _, ⟨rfl, by intro e he; simp at he; rcases he with rfl | rfl | rfl <;> rfl⟩, ?_⟩
    refine A.app S (by simp; omega) (by simp; omega) fun a' h3 A' S' => ?_
    simp -dsimp -implicitDefEqProofs (disch := omega) only [VCA, ↓reduceIte]
    refine ⟨_, Sub.refl _, ?_, S'⟩
    rw [YU, Lib.encodeRuneZ_three (.inl hc)]
    simp only [f128] at A'
    simpa [fd6, fd12, fd18, e6, e12, e18, f224 (x := r / 4096) (by omega) (by omega)] using A'
  · have hw : IntKind.u32.wrap r = r := TV (by omega) h2
    have d1 : decide (r <= 2047) = false := by simp; omega
    have d2 : decide (r < 55296) = false := by simp; omega
    have d3 : decide (57343 < r) = false := by simp; omega
    have d4 : decide (r <= 65535) = true := by simp; omega
    have d5 : decide (65535 < r) = false := by simp; omega
    simp -dsimp -implicitDefEqProofs (disch := omega) only [↓Q0 30, ↓Q0 53, VCA, Nat.reduceEqDiff, ↓reduceIte, reduceCtorEq, J4, c134, hw, d1, d2, d3, d5]
    refine ⟨_, ⟨rfl, by intro e he; rcases he with rfl | rfl | rfl <;> rfl⟩, ?_⟩
    refine A.app S (by simp; omega) (by simp; omega) fun a' h3 A' S' => ?_
    simp -dsimp -implicitDefEqProofs (disch := omega) only [VCA, ↓reduceIte]
    refine ⟨_, Sub.refl _, ?_, S'⟩
    rw [YU, Lib.encodeRuneZ_bad (.inr (.inl hc))]
    simpa using A'
  · have hw : IntKind.u32.wrap r = r := TV (by omega) h2
    have d1 : decide (r <= 2047) = false := by simp; omega
    have d2 : decide (r < 55296) = false := by simp; omega
    have d3 : decide (57343 < r) = true := by simp; omega
    have d4 : decide (r <= 65535) = true := by simp; omega
    simp -dsimp -implicitDefEqProofs (disch := omega) only [↓Q0 30, VCA, Nat.reduceEqDiff, ↓reduceIte, reduceCtorEq, J4, c134, hw, d1, d2, d3, d4]
    refine ⟨by omega, by omega, _, ⟨rfl, by intro e he; simp at he; rcases he with rfl | rfl | rfl <;> rfl⟩, ?_⟩
    refine A.app S (by simp; omega) (by simp; omega) fun a' h3 A' S' => ?_
    simp -dsimp -implicitDefEqProofs (disch := omega) only [VCA, ↓reduceIte]
    refine ⟨_, Sub.refl _, ?_, S'⟩
    rw [YU, Lib.encodeRuneZ_three (.inr hc)]
    simp only [f128] at A'
    simpa [fd6, fd12, fd18, e6, e12, e18, f224 (x := r / 4096) (by omega) (by omega)] using A'
  · have hw : IntKind.u32.wrap r = r := TV (by omega) h2
    have d1 : decide (r <= 2047) = false := by simp; omega
    have d2 : decide (r < 55296) = false := by simp; omega
    have d3 : decide (57343 < r) = true := by simp; omega
    have d4 : decide (r <= 65535) = false := by simp; omega
    have d5 : decide (65535 < r) = true := by simp; omega
    have d6 : decide (r <= 1114111) = true := by simp; omega
    simp -dsimp -implicitDefEqProofs (disch := omega) only [↓Q0 30, ↓Q0 53, VCA, Nat.reduceEqDiff, ↓reduceIte, reduceCtorEq, J4, c134, hw, d1, d2, d3, d4, d5, d6]
    refine ⟨by omega, by omega, by omega, _, ⟨rfl, by intro e he; simp at he; rcases he with rfl | rfl | rfl | rfl <;> rfl⟩, ?_⟩
    refine A.app S (by simp; omega) (by simp; omega) fun a' h3 A' S' => ?_
    simp -dsimp -implicitDefEqProofs (disch := omega) only [VCA, ↓reduceIte]
    refine ⟨_, Sub.refl _, ?_, S'⟩
    rw [YU, Lib.encodeRuneZ_four hc.1 hc.2]
    simp only [f128] at A'
    simpa [fd6, fd12, fd18, e6, e12, e18, f240 (x := r / 262144) (by omega) (by omega)] using A'
  · have hw : IntKind.u32.wrap r = r := TV (by omega) h2
    have d1 : decide (r <= 2047) = false := by simp; omega
    have d2 : decide (r < 55296) = false := by simp; omega
    have d3 : decide (57343 < r) = true := by simp; omega
    have d4 : decide (r <= 65535) = false := by simp; omega
    have d5 : decide (65535 < r) = true := by simp; omega
    have d6 : decide (r <= 1114111) = false := by simp; omega
    simp -dsimp -implicitDefEqProofs (disch := omega) only [↓Q0 30, ↓Q0 53, VCA, Nat.reduceEqDiff, ↓reduceIte, reduceCtorEq, J4, c134, hw, d1, d2, d3, d4, d5, d6]
    refine ⟨_, ⟨rfl, by intro e he; rcases he with rfl | rfl | rfl <;> rfl⟩, ?_⟩
    refine A.app S (by simp; omega) (by simp; omega) fun a' h3 A' S' => ?_
    simp -dsimp -implicitDefEqProofs (disch := omega) only [VCA, ↓reduceIte]
    refine ⟨_, Sub.refl _, ?_, S'⟩
    rw [YU, Lib.encodeRuneZ_bad (.inr (.inr hc))]
    simpa using A'
def c133 : SFun := ⟨.seq (.reg [o 4 (.mv (.c .emp))]) (.seq (.seq (.reg [o 5 (.mv (.t 1)), o 6 (.cvi .u32 (.t 5)), o 7 (.bin .leq (.t 6) (.c (.int .u32 127)))]) (.cond (.t 7) (.seq (.reg [o 8 (.mv (.t 0)), o 9 (.mv (.t 1)), o 10 (.cvi .u8 (.t 9)), o 11 (.bldF 5 1 [.t 10]), o 12 (.app 5 1 1 (.t 8) (.t 11)), o 4 (.mv (.t 12))]) .ret) .skip)) (.seq (.reg [o 13 (.mv (.t 0)), o 14 (.mv (.t 1)), o 15 (.call (.c (.fn 134 [] [])) [.t 13, .t 14]), o 4 (.mv (.t 15))]) .ret)), [.tmp 4]⟩
theorem hc133 : Y5 Tryz.prog {} Tryz.f133 = some c133 := by kernel_rfl
theorem appRune_ok {h0 h : Q2} {cells : List (List AVal)} {a : AVal} (r : Int) (A : Acc h0 Tu 1 cells a h) (S : Sub h0 h) (h1 : -2147483648 <= r) (h2 : r <= 2147483647) (hs : cells.length + 4 <= 140737488355328) :
    DCalls (Pg G) 133 [a, .int .i32 r] h fun a' h' => Acc h0 Tu 1 (cells ++ Z2 (Lib.encodeRune r)) a' h' /\ Sub h0 h' := by
  refine Q1 Tryz.func133 (by kernel_rfl) hc133 (by rw [Tryz.ntmps133]; simp) (by rw [Tryz.ntmps133]; decide) ?_
  by_cases hc : 0 <= r /\ r <= 127
  · have hw := TV hc.1 h2
    have d1 : decide (r <= 127) = true := by simp; omega
    simp -dsimp -implicitDefEqProofs (disch := omega) only [VCA, Nat.reduceEqDiff, ↓reduceIte, reduceCtorEq, J4, forall_eq, exists_eq_left, c133, hw, d1]
    refine A.app S (by simp; omega) (by simp; omega) fun a' h3 A' S' => ?_
    simp -dsimp -implicitDefEqProofs (disch := omega) only [VCA, ↓reduceIte]
    refine ⟨_, Sub.refl _, ?_, S'⟩
    rw [YU, Lib.encodeRuneZ_one hc.1 hc.2]
    rw [IntKind.wrap_u8, Int.emod_eq_of_lt hc.1 (by omega)] at A'
    simpa using A'
  · have d1 : decide (IntKind.u32.wrap r <= 127) = false := by
      rcases (by omega : r < 0 \/ 0 <= r) with h | h
      · rw [u32_neg h h1]; simp; omega
      · rw [TV h h2]; simp; omega
    simp -dsimp -implicitDefEqProofs (disch := omega) only [VCA, Nat.reduceEqDiff, ↓reduceIte, reduceCtorEq, c133, d1]
    refine DCalls.of (appNon_ok r A S (by omega) h1 h2 hs) ?_
    rintro a' h3 ⟨A', S'⟩
    simp -dsimp -implicitDefEqProofs (disch := omega) only [VCA, ↓reduceIte]
    exact ⟨_, Sub.refl _, A', S'⟩
def c132 : SFun := ⟨.seq (.reg [o 4 (.mv (.c (.int .i64 0))), o 5 (.mv (.c (.prim .nilIface)))]) (.seq (.reg [o 7 (.mv (.t 0)), o 8 (.call (.c (.fn 50 [] [])) [.t 7])]) (.seq (.reg [o 9 (.mv (.t 0)), o 10 (.fldA 0 (.t 9)), o 11 (.fldA 1 (.t 10)), o 12 (.ld 1 false (.t 11)), o 13 (.len (.t 12)), o 6 (.mv (.t 13))]) (.seq (.reg [o 14 (.mv (.t 0)), o 15 (.mv (.t 0)), o 16 (.fldA 0 (.t 15)), o 17 (.fldA 1 (.t 16)), o 18 (.ld 1 false (.t 17)), o 19 (.mv (.t 1)), o 20 (.call (.c (.fn 133 [] [])) [.t 18, .t 19]), o 21 (.fldA 0 (.t 14)), o 22 (.fldA 1 (.t 21)), ⟨none, .st 1 (.t 22) (.t 20), none⟩]) (.seq (.reg [o 23 (.mv (.t 0)), o 24 (.fldA 0 (.t 23)), o 25 (.fldA 1 (.t 24)), o 26 (.ld 1 false (.t 25)), o 27 (.len (.t 26)), o 28 (.mv (.t 6)), o 29 (.bin .sub (.t 27) (.t 28)), o 4 (.mv (.t 29)), o 5 (.mv (.c (.prim .nilIface)))]) .ret)))), [.tmp 4, .tmp 5]⟩
theorem hc132 : Y5 Tryz.prog {} Tryz.f132 = some c132 := by kernel_rfl
theorem writeRune_ok {h0 h : Q2} {rb : Nat} {s : List UInt8} (r : Int) (B : Bl h0 rb s h) (h1 : -2147483648 <= r) (h2 : r <= 2147483647) (hs : s.length + 4 <= 140737488355328) :
    DCalls (Pg G) 132 [.vp rb 0, .int .i32 r] h fun a h' => (∃ n, a = .tup [n, .prim .nilIface]) /\ Bl h0 rb (s ++ Lib.encodeRune r) h' := by
  obtain ⟨hn, p, buf, hp, hne, A, S⟩ := B
  refine Q1 Tryz.func132 (by kernel_rfl) hc132 (by rw [Tryz.ntmps132]; simp) (by rw [Tryz.ntmps132]; decide) ?_
  simp -dsimp -implicitDefEqProofs (disch := omega) only [VCA, ↓reduceIte, reduceCtorEq, c132]
  refine copyCheck_ok rb h p buf hp (sub_is S) ?_
  have L := (acc_at (y := ⟨Tb, 2, [[.vp rb 0, buf]]⟩) A).len
  simp -dsimp -implicitDefEqProofs (disch := omega) only [VCA, Nat.reduceEqDiff, Nat.reduceAdd, Nat.reduceLT, ↓reduceIte, reduceCtorEq, exists_eq_left', L.1, L.2]
  refine DCalls.of (appRune_ok r (acc_at A) (sub_at S) h1 h2 (by simp [Z2]; omega)) ?_
  rintro a' h3 ⟨A', S'⟩
  obtain ⟨hv, hc⟩ : isV a' = true /\ cellsOf a' = [a'] := by
    rcases A' with ⟨_, rfl⟩ | ⟨r, _, _, rfl⟩ <;> exact ⟨rfl, rfl⟩
  have L' := A'.len
  have hne' : Lib.encodeRune r ≠ [] := by
    unfold Lib.encodeRune Lib.encodeRuneZ; repeat' split
    all_goals simp
  simp -dsimp -implicitDefEqProofs (disch := omega) only [VCA, Nat.reduceEqDiff, Nat.reduceAdd, Nat.reduceLT, ↓reduceIte, reduceCtorEq, Z3, exists_eq_left', sub_is S', hv, hc, L'.1, L'.2]
  exact ⟨_, Sub.refl _, ⟨_, rfl⟩, hn, _, _, .inr rfl, fun _ => by simp [hne'], by simpa [Z2] using acc_at A', sub_at S'⟩
end Go.Proofs.K
end
section
set_option linter.unusedSimpArgs false
set_option linter.unusedVariables false
namespace Go.Proofs.K
open Go Go.Sim Go.Proofs
variable {G : JU}
def eRune (r : Int) : List AVal := [.int .i32 r]
instance : LenE eRune 1 := ⟨fun _ => rfl⟩
def I32 (l : List Int) : Prop := ∀ r ∈ l, -2147483648 <= r /\ r <= 2147483647
def validR (r : Int) : Bool := (decide (0 <= r) && decide (r < 55296)) || (decide (57343 < r) && decide (r <= 1114111))
def c116 : SFun := ⟨.seq (.reg [o 2 (.mv (.c (.bool false)))]) (.seq (.block 0 (.seq (.reg [o 4 (.mv (.t 0)), o 5 (.bin .leq (.c (.int .i32 0)) (.t 4)), o 6 (.mv (.t 5)), ⟨some 7, .mv (.t 0), some (6, true)⟩, ⟨some 8, .bin .lss (.t 7) (.c (.int .i32 55296)), some (6, true)⟩, o 9 (.pick (.t 6) (.t 8) (.c (.bool false))), o 3 (.mv (.t 9))]) (.cond (.t 3) (.seq (.reg [o 2 (.mv (.c (.bool true)))]) .ret) (.seq (.reg [o 11 (.mv (.t 0)), o 12 (.bin .lss (.c (.int .i32 57343)) (.t 11)), o 13 (.mv (.t 12)), ⟨some 14, .mv (.t 0), some (13, true)⟩, ⟨some 15, .bin .leq (.t 14) (.c (.int .i32 1114111)), some (13, true)⟩, o 16 (.pick (.t 13) (.t 15) (.c (.bool false))), o 10 (.mv (.t 16))]) (.cond (.t 10) (.seq (.reg [o 2 (.mv (.c (.bool true)))]) .ret) .skip))))) (.seq (.reg [o 2 (.mv (.c (.bool false)))]) .ret)), [.tmp 2]⟩
theorem hc116 : Y5 Tryz.prog {} Tryz.f116 = some c116 := by kernel_rfl
theorem validRune_ok (r : Int) : PCalls (Pg G) 116 [.int .i32 r] (.bool (validR r)) := fun h => by
  refine Q1 Tryz.func116 (by kernel_rfl) hc116 (by rw [Tryz.ntmps116]; simp) (by rw [Tryz.ntmps116]; decide) ?_
  unfold validR
  by_cases h1 : 0 <= r <;> by_cases h2 : r < 55296 <;> by_cases h3 : 57343 < r <;> by_cases h4 : r <= 1114111
  all_goals simp only [h1, h2, h3, h4, decide_true, decide_false, Bool.and_true, Bool.and_false, Bool.or_true, Bool.or_false]
  all_goals first | omega | skip
  all_goals (
    simp -dsimp -implicitDefEqProofs (disch := omega) only [↓Q0 6, ↓Q0 13, VCA, Nat.reduceEqDiff, ↓reduceIte, reduceCtorEq, exists_eq_right, c116, h1, h2, h3, h4, decide_true, decide_false]
    exact Sub.refl _)
theorem encode_valid (r : Int) : Lib.encodeRune (if validR r = true then r else 65533) = Lib.encodeRune r := by
  split
  · rfl
  · rename_i h
    have h : r < 0 \/ (55296 <= r /\ r <= 57343) \/ 1114111 < r := by
      simp [validR] at h; omega
    simp only [Lib.encodeRune]
    rw [Lib.encodeRuneZ_bad h, Lib.encodeRuneZ_three (by omega)]
    rfl
theorem encode_len (r : Int) : (Lib.encodeRune r).length <= 4 := by
  unfold Lib.encodeRune Lib.encodeRuneZ; repeat' split
  all_goals simp
def c131 : SFun := ⟨.seq (.seq (.reg [o 4 (.mv (.t 1)), o 5 (.pcall 116 [.t 4]), o 6 (.un .not (.t 5))]) (.cond (.t 6) (.reg [o 1 (.mv (.c (.int .i32 65533)))]) .skip)) (.reg [o 7 (.mv (.t 0)), o 8 (.mv (.t 1)), o 9 (.call (.c (.fn 132 [] [])) [.t 7, .t 8])]), []⟩
theorem hc131 : Y5 Tryz.prog {pure := [116]} Tryz.f131 = some c131 := by kernel_rfl
theorem write_ok {h0 h : Q2} {rb : Nat} {s : List UInt8} (r : Int) (B : Bl h0 rb s h) (h1 : -2147483648 <= r) (h2 : r <= 2147483647) (hs : s.length + 4 <= 140737488355328) :
    DCalls (Pg G) 131 [.vp rb 0, .int .i32 r] h fun a h' => a = .tup [] /\ Bl h0 rb (s ++ Lib.encodeRune r) h' := by
  have hv := encode_valid r
  refine Q1 Tryz.func131 (by kernel_rfl) hc131 (by rw [Tryz.ntmps131]; simp) (by rw [Tryz.ntmps131]; decide) ?_
  simp -dsimp -implicitDefEqProofs (disch := omega) only [VCA, ↓reduceIte, c131]
  refine pcallE.of (validRune_ok r) ?_; simp -dsimp -implicitDefEqProofs (disch := omega) only [VCA, ↓reduceIte]
  cases hb : validR r
  · simp -dsimp -implicitDefEqProofs (disch := omega) only [VCA, Nat.reduceEqDiff, ↓reduceIte, reduceCtorEq]
    rw [hb] at hv
    refine DCalls.of (writeRune_ok 65533 B (by omega) (by omega) hs) ?_
    rintro a h' ⟨⟨n, rfl⟩, B'⟩
    simp -dsimp -implicitDefEqProofs (disch := omega) only [VCA]
    refine ⟨_, Sub.refl _, ?_⟩
    simpa [<- hv] using B'
  · simp -dsimp -implicitDefEqProofs (disch := omega) only [VCA, Nat.reduceEqDiff, ↓reduceIte, reduceCtorEq]
    refine DCalls.of (writeRune_ok r B h1 h2 hs) ?_
    rintro a h' ⟨⟨n, rfl⟩, B'⟩
    simp -dsimp -implicitDefEqProofs (disch := omega) only [VCA]
    exact ⟨_, Sub.refl _, B'⟩
def KQ (l : List Int) : List UInt8 := (l.map Lib.encodeRune).flatten
theorem encM_app (l : List Int) (r : Int) : KQ (l ++ [r]) = KQ l ++ Lib.encodeRune r := by simp [KQ]
theorem encM_len (l : List Int) : (KQ l).length <= 4 * l.length := by
  induction l with
  | nil => simp [KQ]
  | cons a r ih => have := encode_len a; simp [KQ] at ih ⊢; omega
def c130 : SFun := ⟨.seq (.reg [o 2 (.mv (.c (.str [])))]) (.seq (.reg [o 3 (.new 61 2 [.prim (Value.pointer none), .emp])]) (.seq (.seq (.reg [o 6 (.mv (.t 0)), o 7 (.len (.t 6)), o 8 (.mv (.c (.int .i64 0)))]) (.block 0 (.loop (.seq (.reg [o 9 (.bin .lss (.t 8) (.t 7))]) (.seq (.cond (.t 9) .skip (.exit 0)) (.seq (.block 1 (.seq (.reg [o 10 (.idxA 1 (.t 6) (.t 8)), o 11 (.ld 1 false (.t 10)), o 5 (.mv (.t 11))]) (.reg [o 12 (.mv (.t 5)), o 13 (.call (.c (.fn 131 [] [])) [.t 3, .t 12])]))) (.reg [o 14 (.bin .add (.t 8) (.c (.int .i64 1))), o 8 (.mv (.t 14))]))))))) (.seq (.reg [o 15 (.call (.c (.fn 28 [] [])) [.t 3]), o 2 (.mv (.t 15))]) .ret))), [.tmp 2]⟩
theorem hc130 : Y5 Tryz.prog {} Tryz.f130 = some c130 := by kernel_rfl
theorem encode_ok (l : List Int) (hr : I32 l) (hl : l.length <= 1073741824) : PCalls (Pg G) 130 [sl eRune l] (.str (KQ l)) := fun h => by
  refine Q1 Tryz.func130 (by kernel_rfl) hc130 (by rw [Tryz.ntmps130]; simp) (by rw [Tryz.ntmps130]; decide) ?_
  simp -dsimp -implicitDefEqProofs (disch := omega) only [VCA, ↓reduceIte, reduceCtorEq, c130]
  intro rb h0
  refine LoopVC.intro (fun m e h' => ∃ k : Nat, k <= l.length /\ m = l.length - k /\ e 3 = .vp rb 0 /\ e 6 = sl eRune l /\ e 7 = Q3 l.length /\ e 8 = Q3 k /\ Bl h rb (KQ (l.take k)) h') l.length ⟨0, by omega, by omega, rfl, rfl, rfl, rfl, Bl.new h rb h0⟩ ?_
  rintro m e h' ⟨k, hk, rfl, he3, he6, he7, he8, B⟩
  simp -dsimp -implicitDefEqProofs (disch := omega) only [VCA, ↓reduceIte, he7, he8]
  refine Br.dec (fun hlt => ?_) (fun hge => ?_)
  · simp -dsimp -implicitDefEqProofs (disch := omega) only [VCA, Nat.reduceEqDiff, ↓reduceIte, eRune, he3, he6, he8]
    refine ⟨by omega, ?_⟩
    have hm := hr (nth l k) (W6 (by omega))
    have hle := encM_len (l.take k)
    rw [List.length_take] at hle
    refine DCalls.of (write_ok (nth l k) B hm.1 hm.2 (by omega)) ?_
    rintro a h2 ⟨rfl, B'⟩
    simp -dsimp -implicitDefEqProofs (disch := omega) only [VCA, Nat.reduceEqDiff, ↓reduceIte, he3, he6, he7, he8]
    refine ⟨_, ?_, k + 1, by omega, rfl, by omega, ?_⟩
    · omega
    · rw [<- encM_app] at B'
      rwa [<- VY (by omega)] at B'
  · simp -dsimp -implicitDefEqProofs (disch := omega) only [VCA, Nat.reduceEqDiff, ↓reduceIte, he3]
    have hkl : k = l.length := by omega
    subst hkl
    rw [List.take_length] at B
    have hle := encM_len l
    refine DCalls.of (string_ok B (by omega)) ?_
    rintro a h2 ⟨rfl, S⟩
    simp -dsimp -implicitDefEqProofs (disch := omega) only [VCA, ↓reduceIte, exists_eq_right]
    exact S
theorem strEs_append (a b : List UInt8) : Z2 (a ++ b) = Z2 a ++ Z2 b := by simp [Z2]
def c61 : SFun := ⟨.seq (.reg [o 2 (.mv (.c (.str [])))]) (.seq (.reg [o 3 (.mv (.c .emp))]) (.seq (.seq (.reg [o 4 (.mv (.c (.int .i64 0)))]) (.block 0 (.loop (.seq (.seq (.reg [o 6 (.mv (.t 4)), o 7 (.mv (.t 0)), o 8 (.len (.t 7)), o 9 (.bin .lss (.t 6) (.t 8))]) (.cond (.t 9) .skip (.exit 0))) (.seq (.block 1 (.seq (.reg [o 12 (.mv (.t 0)), o 13 (.mv (.t 4)), o 14 (.idxA 1 (.t 12) (.t 13)), o 15 (.ld 1 false (.t 14)), o 16 (.cvi .i64 (.t 15)), o 5 (.mv (.t 16))]) (.seq (.seq (.reg [o 17 (.mv (.t 5)), o 18 (.bin .lss (.t 17) (.c (.int .i64 0))), o 19 (.mv (.t 18)), ⟨some 20, .mv (.t 5), some (19, false)⟩, ⟨some 21, .pcall 53 [.t 20, .c (.int .i64 55296), .c (.int .i64 57343)], some (19, false)⟩, o 22 (.pick (.t 19) (.c (.bool true)) (.t 21)), o 23 (.mv (.t 22)), ⟨some 24, .mv (.t 5), some (23, false)⟩, ⟨some 25, .bin .gtr (.t 24) (.c (.int .i64 1114111)), some (23, false)⟩, o 26 (.pick (.t 23) (.c (.bool true)) (.t 25))]) (.cond (.t 26) (.reg [o 5 (.mv (.c (.int .i64 65533)))]) .skip)) (.seq (.reg [o 27 (.mv (.t 5)), o 28 (.bin .lss (.t 27) (.c (.int .i64 128)))]) (.cond (.t 28) (.reg [o 29 (.mv (.t 3)), o 30 (.mv (.t 5)), o 31 (.cvi .u8 (.t 30)), o 32 (.bldF 5 1 [.t 31]), o 33 (.app 5 1 1 (.t 29) (.t 32)), o 3 (.mv (.t 33))]) (.seq (.reg [o 34 (.mv (.t 5)), o 35 (.bin .lss (.t 34) (.c (.int .i64 2048)))]) (.cond (.t 35) (.reg [o 36 (.mv (.t 3)), o 37 (.mv (.t 5)), o 38 (.bin .quo (.t 37) (.c (.int .i64 64))), o 39 (.bin .add (.c (.int .i64 192)) (.t 38)), o 40 (.cvi .u8 (.t 39)), o 41 (.mv (.t 5)), o 42 (.bin .rem (.t 41) (.c (.int .i64 64))), o 43 (.bin .add (.c (.int .i64 128)) (.t 42)), o 44 (.cvi .u8 (.t 43)), o 45 (.bldF 5 1 [.t 40, .t 44]), o 46 (.app 5 1 1 (.t 36) (.t 45)), o 3 (.mv (.t 46))]) (.seq (.reg [o 47 (.mv (.t 5)), o 48 (.bin .lss (.t 47) (.c (.int .i64 65536)))]) (.cond (.t 48) (.reg [o 49 (.mv (.t 3)), o 50 (.mv (.t 5)), o 51 (.bin .quo (.t 50) (.c (.int .i64 4096))), o 52 (.bin .add (.c (.int .i64 224)) (.t 51)), o 53 (.cvi .u8 (.t 52)), o 54 (.mv (.t 5)), o 55 (.bin .quo (.t 54) (.c (.int .i64 64))), o 56 (.bin .rem (.t 55) (.c (.int .i64 64))), o 57 (.bin .add (.c (.int .i64 128)) (.t 56)), o 58 (.cvi .u8 (.t 57)), o 59 (.mv (.t 5)), o 60 (.bin .rem (.t 59) (.c (.int .i64 64))), o 61 (.bin .add (.c (.int .i64 128)) (.t 60)), o 62 (.cvi .u8 (.t 61)), o 63 (.bldF 5 1 [.t 53, .t 58, .t 62]), o 64 (.app 5 1 1 (.t 49) (.t 63)), o 3 (.mv (.t 64))]) (.reg [o 65 (.mv (.t 3)), o 66 (.mv (.t 5)), o 67 (.bin .quo (.t 66) (.c (.int .i64 262144))), o 68 (.bin .add (.c (.int .i64 240)) (.t 67)), o 69 (.cvi .u8 (.t 68)), o 70 (.mv (.t 5)), o 71 (.bin .quo (.t 70) (.c (.int .i64 4096))), o 72 (.bin .rem (.t 71) (.c (.int .i64 64))), o 73 (.bin .add (.c (.int .i64 128)) (.t 72)), o 74 (.cvi .u8 (.t 73)), o 75 (.mv (.t 5)), o 76 (.bin .quo (.t 75) (.c (.int .i64 64))), o 77 (.bin .rem (.t 76) (.c (.int .i64 64))), o 78 (.bin .add (.c (.int .i64 128)) (.t 77)), o 79 (.cvi .u8 (.t 78)), o 80 (.mv (.t 5)), o 81 (.bin .rem (.t 80) (.c (.int .i64 64))), o 82 (.bin .add (.c (.int .i64 128)) (.t 81)), o 83 (.cvi .u8 (.t 82)), o 84 (.bldF 5 1 [.t 69, .t 74, .t 79, .t 83]), o 85 (.app 5 1 1 (.t 65) (.t 84)), o 3 (.mv (.t 85))])))))))))) (.reg [o 10 (.mv (.t 4)), o 11 (.bin .add (.t 10) (.c (.int .i64 1))), o 4 (.mv (.t 11))])))))) (.seq (.reg [o 86 (.mv (.t 3)), o 87 (.b2s (.t 86)), o 2 (.mv (.t 87))]) .ret))), [.tmp 2]⟩
theorem hc61 : Y5 Tryz.prog {pure := [53]} Tryz.f61 = some c61 := by kernel_rfl
theorem refEncode_ok (l : List Int) (hr : I32 l) (hl : l.length <= 1073741824) : PCalls (Pg G) 61 [sl eRune l] (.str (KQ l)) := fun h => by
  refine Q1 Tryz.func61 (by kernel_rfl) hc61 (by rw [Tryz.ntmps61]; simp) (by rw [Tryz.ntmps61]; decide) ?_
  simp -dsimp -implicitDefEqProofs (disch := omega) only [VCA, c61]
  refine LoopVC.intro (fun m e h' => ∃ k : Nat, k <= l.length /\ m = l.length - k /\ e 0 = sl eRune l /\ e 4 = Q3 k /\ Acc h Tu 1 (Z2 (KQ (l.take k))) (e 3) h' /\ Sub h h') l.length ⟨0, by omega, by omega, rfl, rfl, Acc.nil, Sub.refl _⟩ ?_
  rintro m e h' ⟨k, hk, rfl, he0, he4, A, S⟩
  simp -dsimp -implicitDefEqProofs (disch := omega) only [VCA, Nat.reduceEqDiff, ↓reduceIte, reduceCtorEq, he0, he4]
  refine Br.dec (fun hlt => ?_) (fun hge => ?_)
  · simp -dsimp -implicitDefEqProofs (disch := omega) only [↓Q0 19, VCA, Nat.reduceEqDiff, ↓reduceIte, reduceCtorEq, eRune, he0, he4]
    refine ⟨by omega, ?_⟩
    have hm := hr (nth l k) (W6 (by omega))
    have hle := encM_len (l.take k)
    rw [List.length_take] at hle
    have hw : IntKind.i64.wrap (nth l k) = nth l k := by rw [IntKind.wrap_i64]; omega
    have hN : KQ (l.take (k + 1)) = KQ (l.take k) ++ Lib.encodeRune (nth l k) := by rw [VY (by omega), encM_app]
    have hgo : ∀ (a' : AVal) (h2 : Q2), Acc h Tu 1 (Z2 (KQ (l.take k)) ++ (Lib.encodeRuneZ (nth l k)).map fun x => [.int .u8 x]) a' h2 -> Acc h Tu 1 (Z2 (KQ (l.take (k + 1)))) a' h2 := by
      intro a' h2 h3
      rw [hN, strEs_append, YU]; exact h3
    generalize nth l k = x at hm hw hgo
    have k1 : decide ((65533 : Int) < 128) = false := rfl
    have k2 : decide ((65533 : Int) < 2048) = false := rfl
    have k3 : decide ((65533 : Int) < 65536) = true := rfl
    have q : 0 <= x -> x.tdiv 64 = x / 64 /\ x.tdiv 4096 = x / 4096 /\ x.tdiv 262144 = x / 262144 /\ x.tmod 64 = x % 64 /\ (x / 64).tmod 64 = x / 64 % 64 /\ (x / 4096).tmod 64 = x / 4096 % 64 := fun h =>
      ⟨Int.tdiv_eq_ediv_of_nonneg h, Int.tdiv_eq_ediv_of_nonneg h, Int.tdiv_eq_ediv_of_nonneg h, Int.tmod_eq_emod_of_nonneg h, Int.tmod_eq_emod_of_nonneg (by omega), Int.tmod_eq_emod_of_nonneg (by omega)⟩
    have ww : 0 <= x -> IntKind.i64.wrap (x / 64) = x / 64 /\ IntKind.i64.wrap (x / 4096) = x / 4096 /\ IntKind.i64.wrap (x / 262144) = x / 262144 := fun h => by
      simp only [IntKind.wrap_i64]; omega
    rcases (by omega : x < 0 \/ (0 <= x /\ x <= 127) \/ (128 <= x /\ x <= 2047) \/ (2048 <= x /\ x < 55296) \/ (55296 <= x /\ x <= 57343) \/ (57343 < x /\ x <= 65535) \/ (65536 <= x /\ x <= 1114111) \/ 1114111 < x) with hc | hc | hc | hc | hc | hc | hc | hc
    · have d0 : decide (x < 0) = true := by simp; omega
      simp -dsimp -implicitDefEqProofs (disch := omega) only [↓Q0 23, VCA, Nat.reduceEqDiff, ↓reduceIte, J4, ne_eq, hw, d0, k1, k2, k3]
      refine ⟨by decide, by decide, by decide, by decide, _, ⟨rfl, by intro e he; rcases he with rfl | rfl | rfl <;> rfl⟩, ?_⟩
      refine A.app S (by simp [Z2]; omega) (by simp [Z2]; omega) fun a' h3 A' S' => ?_
      simp -dsimp -implicitDefEqProofs (disch := omega) only [VCA, Nat.reduceEqDiff, ↓reduceIte, reduceCtorEq, he0, he4]
      refine ⟨_, ?_, k + 1, by omega, rfl, by omega, hgo _ _ ?_, S'⟩
      · omega
      · rw [Lib.encodeRuneZ_bad (.inl hc)]
        refine Eq.mp (congrArg (fun z => Acc h Tu 1 (Z2 (KQ (l.take k)) ++ z) a' h3) ?_) A'
        rfl
    · have d0 : decide (x < 0) = false := by simp; omega
      have d1 : decide (x < 128) = true := by simp; omega
      have d4 : decide (1114111 < x) = false := by simp; omega
      have db : (decide (55296 <= x) && decide (x <= 57343)) = false := by simp; omega
      simp -dsimp -implicitDefEqProofs (disch := omega) only [VCA, Nat.reduceEqDiff, ↓reduceIte, hw, d0]
      refine pcallE.of (QV x 55296 57343) ?_; simp -dsimp -implicitDefEqProofs (disch := omega) only [↓Q0 23, VCA, Nat.reduceEqDiff, ↓reduceIte, J4, forall_eq, exists_eq_left, db, d1, d4]
      refine A.app S (by simp [Z2]; omega) (by simp [Z2]; omega) fun a' h3 A' S' => ?_
      simp -dsimp -implicitDefEqProofs (disch := omega) only [VCA, Nat.reduceEqDiff, ↓reduceIte, reduceCtorEq, he0, he4]
      refine ⟨_, ?_, k + 1, by omega, rfl, by omega, hgo _ _ ?_, S'⟩
      · omega
      · rw [Lib.encodeRuneZ_one hc.1 hc.2]
        refine Eq.mp (congrArg (fun z => Acc h Tu 1 (Z2 (KQ (l.take k)) ++ z) a' h3) ?_) A'
        obtain ⟨q1, q2, q3, q4, q5, q6⟩ := q (by omega)
        obtain ⟨w1, w2, w3⟩ := ww (by omega)
        simp only [List.map_cons, List.map_nil, List.cons.injEq, AVal.int.injEq, and_true, true_and, IntKind.wrap_u8]
        omega
    · have d0 : decide (x < 0) = false := by simp; omega
      have d1 : decide (x < 128) = false := by simp; omega
      have d2 : decide (x < 2048) = true := by simp; omega
      have d4 : decide (1114111 < x) = false := by simp; omega
      have db : (decide (55296 <= x) && decide (x <= 57343)) = false := by simp; omega
      simp -dsimp -implicitDefEqProofs (disch := omega) only [VCA, Nat.reduceEqDiff, ↓reduceIte, hw, d0]
      refine pcallE.of (QV x 55296 57343) ?_; simp -dsimp -implicitDefEqProofs (disch := omega) only [↓Q0 23, VCA, Nat.reduceEqDiff, ↓reduceIte, J4, ne_eq, db, d1, d2, d4]
      refine ⟨by decide, by decide, _, ⟨rfl, by intro e he; rcases he with rfl | rfl <;> rfl⟩, ?_⟩
      refine A.app S (by simp [Z2]; omega) (by simp [Z2]; omega) fun a' h3 A' S' => ?_
      simp -dsimp -implicitDefEqProofs (disch := omega) only [VCA, Nat.reduceEqDiff, ↓reduceIte, reduceCtorEq, he0, he4]
      refine ⟨_, ?_, k + 1, by omega, rfl, by omega, hgo _ _ ?_, S'⟩
      · omega
      · rw [Lib.encodeRuneZ_two hc.1 hc.2]
        refine Eq.mp (congrArg (fun z => Acc h Tu 1 (Z2 (KQ (l.take k)) ++ z) a' h3) ?_) A'
        obtain ⟨q1, q2, q3, q4, q5, q6⟩ := q (by omega)
        obtain ⟨w1, w2, w3⟩ := ww (by omega)
        simp only [List.map_cons, List.map_nil, List.cons.injEq, AVal.int.injEq, and_true, true_and, q1, q4, IntKind.wrap_u8]
        omega
    · have d0 : decide (x < 0) = false := by simp; omega
      have d1 : decide (x < 128) = false := by simp; omega
      have d2 : decide (x < 2048) = false := by simp; omega
      have d3 : decide (x < 65536) = true := by simp; omega
      have d4 : decide (1114111 < x) = false := by simp; omega
      have db : (decide (55296 <= x) && decide (x <= 57343)) = false := by simp; omega
      simp -dsimp -implicitDefEqProofs (disch := omega) only [VCA, Nat.reduceEqDiff, ↓reduceIte, hw, d0]
      refine pcallE.of (QV x 55296 57343) ?_; simp -dsimp -implicitDefEqProofs (disch := omega) only [↓Q0 23, VCA, Nat.reduceEqDiff, ↓reduceIte, J4, ne_eq, db, d1, d2, d3, d4]
      refine ⟨by decide, by decide, by decide, by decide, _, ⟨rfl, by intro e he; rcases he with rfl | rfl | rfl <;> rfl⟩, ?_⟩
      refine A.app S (by simp [Z2]; omega) (by simp [Z2]; omega) fun a' h3 A' S' => ?_
      simp -dsimp -implicitDefEqProofs (disch := omega) only [VCA, Nat.reduceEqDiff, ↓reduceIte, reduceCtorEq, he0, he4]
      refine ⟨_, ?_, k + 1, by omega, rfl, by omega, hgo _ _ ?_, S'⟩
      · omega
      · rw [Lib.encodeRuneZ_three (.inl hc)]
        refine Eq.mp (congrArg (fun z => Acc h Tu 1 (Z2 (KQ (l.take k)) ++ z) a' h3) ?_) A'
        obtain ⟨q1, q2, q3, q4, q5, q6⟩ := q (by omega)
        obtain ⟨w1, w2, w3⟩ := ww (by omega)
        simp only [List.map_cons, List.map_nil, List.cons.injEq, AVal.int.injEq, and_true, true_and, q1, q2, q4, q5, IntKind.wrap_u8, IntKind.wrap_i64]
        omega
    · have d0 : decide (x < 0) = false := by simp; omega
      have db : (decide (55296 <= x) && decide (x <= 57343)) = true := by simp; omega
      simp -dsimp -implicitDefEqProofs (disch := omega) only [VCA, Nat.reduceEqDiff, ↓reduceIte, hw, d0]
      refine pcallE.of (QV x 55296 57343) ?_; simp -dsimp -implicitDefEqProofs (disch := omega) only [↓Q0 23, VCA, Nat.reduceEqDiff, ↓reduceIte, J4, ne_eq, db, k1, k2, k3]
      refine ⟨by decide, by decide, by decide, by decide, _, ⟨rfl, by intro e he; rcases he with rfl | rfl | rfl <;> rfl⟩, ?_⟩
      refine A.app S (by simp [Z2]; omega) (by simp [Z2]; omega) fun a' h3 A' S' => ?_
      simp -dsimp -implicitDefEqProofs (disch := omega) only [VCA, Nat.reduceEqDiff, ↓reduceIte, reduceCtorEq, he0, he4]
      refine ⟨_, ?_, k + 1, by omega, rfl, by omega, hgo _ _ ?_, S'⟩
      · omega
      · rw [Lib.encodeRuneZ_bad (.inr (.inl hc))]
        refine Eq.mp (congrArg (fun z => Acc h Tu 1 (Z2 (KQ (l.take k)) ++ z) a' h3) ?_) A'
        rfl
    · have d0 : decide (x < 0) = false := by simp; omega
      have d1 : decide (x < 128) = false := by simp; omega
      have d2 : decide (x < 2048) = false := by simp; omega
      have d3 : decide (x < 65536) = true := by simp; omega
      have d4 : decide (1114111 < x) = false := by simp; omega
      have db : (decide (55296 <= x) && decide (x <= 57343)) = false := by simp; omega
      simp -dsimp -implicitDefEqProofs (disch := omega) only [VCA, Nat.reduceEqDiff, ↓reduceIte, hw, d0]
      refine pcallE.of (QV x 55296 57343) ?_; simp -dsimp -implicitDefEqProofs (disch := omega) only [↓Q0 23, VCA, Nat.reduceEqDiff, ↓reduceIte, J4, ne_eq, db, d1, d2, d3, d4]
      refine ⟨by decide, by decide, by decide, by decide, _, ⟨rfl, by intro e he; rcases he with rfl | rfl | rfl <;> rfl⟩, ?_⟩
      refine A.app S (by simp [Z2]; omega) (by simp [Z2]; omega) fun a' h3 A' S' => ?_
      simp -dsimp -implicitDefEqProofs (disch := omega) only [VCA, Nat.reduceEqDiff, ↓reduceIte, reduceCtorEq, he0, he4]
      refine ⟨_, ?_, k + 1, by omega, rfl, by omega, hgo _ _ ?_, S'⟩
      · omega
      · rw [Lib.encodeRuneZ_three (.inr hc)]
        refine Eq.mp (congrArg (fun z => Acc h Tu 1 (Z2 (KQ (l.take k)) ++ z) a' h3) ?_) A'
        obtain ⟨q1, q2, q3, q4, q5, q6⟩ := q (by omega)
        obtain ⟨w1, w2, w3⟩ := ww (by omega)
        simp only [List.map_cons, List.map_nil, List.cons.injEq, AVal.int.injEq, and_true, true_and, q1, q2, q4, q5, IntKind.wrap_u8, IntKind.wrap_i64]
        omega
    · have d0 : decide (x < 0) = false := by simp; omega
      have d1 : decide (x < 128) = false := by simp; omega
      have d2 : decide (x < 2048) = false := by simp; omega
      have d3 : decide (x < 65536) = false := by simp; omega
      have d4 : decide (1114111 < x) = false := by simp; omega
      have db : (decide (55296 <= x) && decide (x <= 57343)) = false := by simp; omega
      simp -dsimp -implicitDefEqProofs (disch := omega) only [VCA, Nat.reduceEqDiff, ↓reduceIte, hw, d0]
      refine pcallE.of (QV x 55296 57343) ?_; simp -dsimp -implicitDefEqProofs (disch := omega) only [↓Q0 23, VCA, Nat.reduceEqDiff, ↓reduceIte, J4, ne_eq, db, d1, d2, d3, d4]
      refine ⟨by decide, by decide, by decide, by decide, by decide, by decide, _, ⟨rfl, by intro e he; rcases he with rfl | rfl | rfl | rfl <;> rfl⟩, ?_⟩
      refine A.app S (by simp [Z2]; omega) (by simp [Z2]; omega) fun a' h3 A' S' => ?_
      simp -dsimp -implicitDefEqProofs (disch := omega) only [VCA, Nat.reduceEqDiff, ↓reduceIte, reduceCtorEq, he0, he4]
      refine ⟨_, ?_, k + 1, by omega, rfl, by omega, hgo _ _ ?_, S'⟩
      · omega
      · rw [Lib.encodeRuneZ_four hc.1 hc.2]
        refine Eq.mp (congrArg (fun z => Acc h Tu 1 (Z2 (KQ (l.take k)) ++ z) a' h3) ?_) A'
        obtain ⟨q1, q2, q3, q4, q5, q6⟩ := q (by omega)
        obtain ⟨w1, w2, w3⟩ := ww (by omega)
        simp only [List.map_cons, List.map_nil, List.cons.injEq, AVal.int.injEq, and_true, true_and, q1, q2, q3, q4, q5, q6, IntKind.wrap_u8, IntKind.wrap_i64]
        omega
    · have d0 : decide (x < 0) = false := by simp; omega
      have d4 : decide (1114111 < x) = true := by simp; omega
      have db : (decide (55296 <= x) && decide (x <= 57343)) = false := by simp; omega
      simp -dsimp -implicitDefEqProofs (disch := omega) only [VCA, Nat.reduceEqDiff, ↓reduceIte, hw, d0]
      refine pcallE.of (QV x 55296 57343) ?_; simp -dsimp -implicitDefEqProofs (disch := omega) only [↓Q0 23, VCA, Nat.reduceEqDiff, ↓reduceIte, J4, ne_eq, db, d4, k1, k2, k3]
      refine ⟨by decide, by decide, by decide, by decide, _, ⟨rfl, by intro e he; rcases he with rfl | rfl | rfl <;> rfl⟩, ?_⟩
      refine A.app S (by simp [Z2]; omega) (by simp [Z2]; omega) fun a' h3 A' S' => ?_
      simp -dsimp -implicitDefEqProofs (disch := omega) only [VCA, Nat.reduceEqDiff, ↓reduceIte, reduceCtorEq, he0, he4]
      refine ⟨_, ?_, k + 1, by omega, rfl, by omega, hgo _ _ ?_, S'⟩
      · omega
      · rw [Lib.encodeRuneZ_bad (.inr (.inr hc))]
        refine Eq.mp (congrArg (fun z => Acc h Tu 1 (Z2 (KQ (l.take k)) ++ z) a' h3) ?_) A'
        rfl
  · simp -dsimp -implicitDefEqProofs (disch := omega) only [VCA, Nat.reduceEqDiff, ↓reduceIte, exists_eq_right_right]
    have hkl : k = l.length := by omega
    subst hkl
    rw [List.take_length] at A
    have hR : Rd h' 1 (e 3) (Z2 (KQ l)) := by
      rcases A with ⟨h1, h2⟩ | ⟨r, h1, h2, h3⟩
      · rw [h2, h1]; rfl
      · rw [h3]; exact ⟨rfl, _, h2, by simp, by simp⟩
    exact ⟨hR, S⟩
def bt (s : List UInt8) (i : Nat) : Int := ((s.getD i 0).toNat : Int)
theorem KT (s : List UInt8) (i : Nat) : 0 <= bt s i /\ bt s i < 256 := by
  unfold bt; have := (s.getD i 0).toNat_lt; omega
abbrev Rn := { r : Int // 0 <= r /\ r < 8388608 }
theorem Acc.isv {h h' : Q2} {ty sz : Nat} {cells : List (List AVal)} {a : AVal} (A : Acc h ty sz cells a h') : isV a = true /\ cellsOf a = [a] := by
  rcases A with ⟨_, rfl⟩ | ⟨r, _, _, rfl⟩ <;> exact ⟨rfl, rfl⟩
theorem encM_one (r : Int) : KQ [r] = Lib.encodeRune r := by simp [KQ]
def c8 : SFun := ⟨.seq (.reg [o 4 (.mv (.c (.str [])))]) (.seq (.reg [o 5 (.mv (.t 0)), o 6 (.mv (.t 0)), o 7 (.lenS (.t 6)), o 8 (.mv (.t 1)), o 9 (.min2 (.t 7) (.t 8)), o 10 (.slS (.t 5) none (some (.t 9))), o 4 (.mv (.t 10))]) .ret), [.tmp 4]⟩
def UY (b : Int) : Int := T3 .or .u8 b 32
theorem byte_all {p : Int -> Prop} [DecidablePred p] (h : ((List.range 256).all fun n => decide (p n)) = true) (b : Int) (h0 : 0 <= b) (h1 : b < 256) : p b := by
  have := List.all_eq_true.1 h b.toNat (List.mem_range.2 (by omega))
  have e : ((b.toNat : Nat) : Int) = b := by omega
  rw [e] at this
  exact of_decide_eq_true this
theorem low_r (b : Int) (h0 : 0 <= b) (h1 : b < 256) : 0 <= UY b /\ UY b < 256 := byte_all (p := fun b => 0 <= UY b /\ UY b < 256) (by decide +kernel) b h0 h1
def dig0 (b : Int) : Int := if 48 <= b /\ b <= 57 then b - 48 else if 97 <= UY b /\ UY b <= 102 then UY b - 97 + 10 else -1
def YQ (b base : Int) : Int := if base <= dig0 b then -1 else dig0 b
def c124 : SFun := ⟨.seq (.reg [o 4 (.mv (.c (.int .i64 0)))]) (.seq (.reg [o 5 (.mv (.c (.int .i64 (-1))))]) (.seq (.block 0 (.seq (.reg [o 7 (.mv (.t 0)), o 8 (.bin .geq (.t 7) (.c (.int .u8 48))), o 9 (.mv (.t 8)), ⟨some 10, .mv (.t 0), some (9, true)⟩, ⟨some 11, .bin .leq (.t 10) (.c (.int .u8 57)), some (9, true)⟩, o 12 (.pick (.t 9) (.t 11) (.c (.bool false))), o 6 (.mv (.t 12))]) (.cond (.t 6) (.reg [o 13 (.mv (.t 0)), o 14 (.bin .sub (.t 13) (.c (.int .u8 48))), o 15 (.cvi .i64 (.t 14)), o 5 (.mv (.t 15))]) (.seq (.reg [o 17 (.mv (.t 0)), o 18 (.bin .or (.t 17) (.c (.int .u8 32))), o 19 (.bin .geq (.t 18) (.c (.int .u8 97))), o 20 (.mv (.t 19)), ⟨some 21, .mv (.t 0), some (20, true)⟩, ⟨some 22, .bin .or (.t 21) (.c (.int .u8 32)), some (20, true)⟩, ⟨some 23, .bin .leq (.t 22) (.c (.int .u8 102)), some (20, true)⟩, o 24 (.pick (.t 20) (.t 23) (.c (.bool false))), o 16 (.mv (.t 24))]) (.cond (.t 16) (.reg [o 25 (.mv (.t 0)), o 26 (.bin .or (.t 25) (.c (.int .u8 32))), o 27 (.bin .sub (.t 26) (.c (.int .u8 97))), o 28 (.cvi .i64 (.t 27)), o 29 (.bin .add (.t 28) (.c (.int .i64 10))), o 5 (.mv (.t 29))]) .skip))))) (.seq (.seq (.reg [o 30 (.mv (.t 5)), o 31 (.mv (.t 1)), o 32 (.bin .geq (.t 30) (.t 31))]) (.cond (.t 32) (.seq (.reg [o 4 (.mv (.c (.int .i64 (-1))))]) .ret) .skip)) (.seq (.reg [o 33 (.mv (.t 5)), o 4 (.mv (.t 33))]) .ret)))), [.tmp 4]⟩
theorem hc124 : Y5 Tryz.prog {} Tryz.f124 = some c124 := by kernel_rfl
theorem hn124 : (Tryz.f124.name == "runtime.NumGoroutine") = false := by kernel_rfl
theorem digit_ok (b base : Int) (h0 : 0 <= b) (h1 : b < 256) : PCalls (Pg G) 124 [.int .u8 b, Q3 base] (Q3 (YQ b base)) := fun h => by
  have hl := low_r b h0 h1
  have el : T3 .or .u8 b 32 = UY b := rfl
  have e1 : 48 <= b -> IntKind.u8.wrap (b - 48) = b - 48 := fun h => by rw [IntKind.wrap_u8]; omega
  have e2 : 97 <= UY b -> IntKind.u8.wrap (UY b - 97) = UY b - 97 := fun h => by rw [IntKind.wrap_u8]; omega
  by_cases c1 : 48 <= b /\ b <= 57
  · have e1 := e1 c1.1
    have ed : dig0 b = b - 48 := if_pos c1
    unfold YQ
    rw [ed]
    refine Q1 Tryz.func124 hn124 hc124 (by rw [Tryz.ntmps124]; simp) (by rw [Tryz.ntmps124]; decide) ?_
    simp -dsimp -implicitDefEqProofs (disch := omega) only [↓Q0 9, VCA, ↓reduceIte, reduceCtorEq, c124]
    repeat' (first | ((with_reducible refine brC (fun _ => ?_) fun _ => ?_) <;> try (exfalso; omega)) | (with_reducible refine And.intro ?_ ?_; · omega) | simp -dsimp -implicitDefEqProofs (disch := omega) only [VCA, Nat.reduceEqDiff, ↓reduceIte, reduceCtorEq, exists_eq_right_right, e1])
    all_goals first | (rw [if_pos (by omega)]; exact ⟨Sub.refl _, rfl⟩) | (rw [if_neg (by omega)]; exact ⟨Sub.refl _, rfl⟩) | (rw [if_pos (by omega)]; exact Sub.refl _) | (rw [if_neg (by omega)]; exact Sub.refl _)
  · by_cases c2 : 97 <= UY b /\ UY b <= 102
    · have e2 := e2 c2.1
      have ed : dig0 b = UY b - 97 + 10 := by unfold dig0; rw [if_neg c1, if_pos c2]
      unfold YQ
      rw [ed]
      refine Q1 Tryz.func124 hn124 hc124 (by rw [Tryz.ntmps124]; simp) (by rw [Tryz.ntmps124]; decide) ?_
      simp -dsimp -implicitDefEqProofs (disch := omega) only [↓Q0 9, VCA, ↓reduceIte, reduceCtorEq, c124]
      repeat' (first | ((with_reducible refine brC (fun _ => ?_) fun _ => ?_) <;> try (exfalso; omega)) | (with_reducible refine And.intro ?_ ?_; · omega) | simp -dsimp -implicitDefEqProofs (disch := omega) only [↓Q0 20, VCA, Nat.reduceEqDiff, ↓reduceIte, reduceCtorEq, exists_eq_right_right, el, e2])
      all_goals first | (rw [if_pos (by omega)]; exact ⟨Sub.refl _, rfl⟩) | (rw [if_neg (by omega)]; exact ⟨Sub.refl _, rfl⟩)
    · have ed : dig0 b = -1 := by unfold dig0; rw [if_neg c1, if_neg c2]
      unfold YQ
      rw [ed]
      refine Q1 Tryz.func124 hn124 hc124 (by rw [Tryz.ntmps124]; simp) (by rw [Tryz.ntmps124]; decide) ?_
      simp -dsimp -implicitDefEqProofs (disch := omega) only [↓Q0 9, VCA, ↓reduceIte, reduceCtorEq, c124]
      repeat' (first | ((with_reducible refine brC (fun _ => ?_) fun _ => ?_) <;> try (exfalso; omega)) | (with_reducible refine And.intro ?_ ?_; · omega) | simp -dsimp -implicitDefEqProofs (disch := omega) only [↓Q0 20, VCA, Nat.reduceEqDiff, ↓reduceIte, reduceCtorEq, exists_eq_right_right, el])
      all_goals first | (rw [if_pos (by omega)]; exact ⟨Sub.refl _, rfl⟩) | (rw [if_neg (by omega)]; exact ⟨Sub.refl _, rfl⟩)
def hexM (b : Int) : Int := if 48 <= b /\ b <= 57 then b - 48 else if 97 <= b /\ b <= 102 then b - 97 + 10 else if 65 <= b /\ b <= 70 then b - 65 + 10 else 99
def c60 : SFun := ⟨.seq (.reg [o 2 (.mv (.c (.int .i64 0)))]) (.seq (.seq (.reg [o 3 (.mv (.t 0)), o 4 (.bin .geq (.t 3) (.c (.int .u8 48))), o 5 (.mv (.t 4)), ⟨some 6, .mv (.t 0), some (5, true)⟩, ⟨some 7, .bin .leq (.t 6) (.c (.int .u8 57)), some (5, true)⟩, o 8 (.pick (.t 5) (.t 7) (.c (.bool false)))]) (.cond (.t 8) (.seq (.reg [o 9 (.mv (.t 0)), o 10 (.cvi .i64 (.t 9)), o 11 (.bin .sub (.t 10) (.c (.int .i64 48))), o 2 (.mv (.t 11))]) .ret) .skip)) (.seq (.seq (.reg [o 12 (.mv (.t 0)), o 13 (.bin .geq (.t 12) (.c (.int .u8 97))), o 14 (.mv (.t 13)), ⟨some 15, .mv (.t 0), some (14, true)⟩, ⟨some 16, .bin .leq (.t 15) (.c (.int .u8 102)), some (14, true)⟩, o 17 (.pick (.t 14) (.t 16) (.c (.bool false)))]) (.cond (.t 17) (.seq (.reg [o 18 (.mv (.t 0)), o 19 (.cvi .i64 (.t 18)), o 20 (.bin .sub (.t 19) (.c (.int .i64 97))), o 21 (.bin .add (.t 20) (.c (.int .i64 10))), o 2 (.mv (.t 21))]) .ret) .skip)) (.seq (.seq (.reg [o 22 (.mv (.t 0)), o 23 (.bin .geq (.t 22) (.c (.int .u8 65))), o 24 (.mv (.t 23)), ⟨some 25, .mv (.t 0), some (24, true)⟩, ⟨some 26, .bin .leq (.t 25) (.c (.int .u8 70)), some (24, true)⟩, o 27 (.pick (.t 24) (.t 26) (.c (.bool false)))]) (.cond (.t 27) (.seq (.reg [o 28 (.mv (.t 0)), o 29 (.cvi .i64 (.t 28)), o 30 (.bin .sub (.t 29) (.c (.int .i64 65))), o 31 (.bin .add (.t 30) (.c (.int .i64 10))), o 2 (.mv (.t 31))]) .ret) .skip)) (.seq (.reg [o 2 (.mv (.c (.int .i64 99)))]) .ret)))), [.tmp 2]⟩
theorem hc60 : Y5 Tryz.prog {} Tryz.f60 = some c60 := by kernel_rfl
theorem hexOf_ok (b : Int) (h0 : 0 <= b) (h1 : b < 256) : PCalls (Pg G) 60 [.int .u8 b] (Q3 (hexM b)) := fun h => by
  refine Q1 Tryz.func60 (by kernel_rfl) hc60 (by rw [Tryz.ntmps60]; simp) (by rw [Tryz.ntmps60]; decide) ?_
  simp -dsimp -implicitDefEqProofs (disch := omega) only [↓Q0 5, VCA, ↓reduceIte, reduceCtorEq, c60]
  repeat' (first | ((with_reducible refine brC (fun _ => ?_) fun _ => ?_) <;> try (exfalso; omega)) | (with_reducible refine And.intro ?_ ?_; · omega) | simp -dsimp -implicitDefEqProofs (disch := omega) only [↓Q0 14, ↓Q0 24, VCA, Nat.reduceEqDiff, ↓reduceIte, reduceCtorEq, exists_eq_right_right])
  all_goals (refine ⟨Sub.refl _, ?_⟩; unfold hexM; repeat' split)
  all_goals first | rfl | omega
theorem hex_dig (b : Int) (h0 : 0 <= b) (h1 : b < 256) : (0 <= YQ b 10 ↔ hexM b < 10) /\ (0 <= YQ b 10 -> YQ b 10 = hexM b) /\ (0 <= YQ b 16 ↔ hexM b < 16) /\ (0 <= YQ b 16 -> YQ b 16 = hexM b) /\ YQ b 10 < 10 /\ YQ b 16 < 16 :=
  byte_all (p := fun b => (0 <= YQ b 10 ↔ hexM b < 10) /\ (0 <= YQ b 10 -> YQ b 10 = hexM b) /\ (0 <= YQ b 16 ↔ hexM b < 16) /\ (0 <= YQ b 16 -> YQ b 16 = hexM b) /\ YQ b 10 < 10 /\ YQ b 16 < 16) (by decide +kernel) b h0 h1
def JX (s : List UInt8) (n : Nat) : Nat := if n < s.length /\ bt s n = 59 then n + 1 else n
def c126 : SFun := ⟨.seq (.reg [o 4 (.mv (.c (.int .i64 0)))]) (.seq (.seq (.reg [o 5 (.mv (.t 1)), o 6 (.mv (.t 0)), o 7 (.lenS (.t 6)), o 8 (.bin .lss (.t 5) (.t 7)), o 9 (.mv (.t 8)), ⟨some 10, .mv (.t 0), some (9, true)⟩, ⟨some 11, .mv (.t 1), some (9, true)⟩, ⟨some 12, .idxS (.t 10) (.t 11), some (9, true)⟩, ⟨some 13, .bin .eql (.t 12) (.c (.int .u8 59)), some (9, true)⟩, o 14 (.pick (.t 9) (.t 13) (.c (.bool false)))]) (.cond (.t 14) (.reg [o 15 (.mv (.t 1)), o 16 (.bin .add (.t 15) (.c (.int .i64 1))), o 1 (.mv (.t 16))]) .skip)) (.seq (.reg [o 17 (.mv (.t 1)), o 4 (.mv (.t 17))]) .ret)), [.tmp 4]⟩
theorem hc126 : Y5 Tryz.prog {} Tryz.f126 = some c126 := by kernel_rfl
theorem semi_ok (s : List UInt8) (n : Nat) (hs : s.length <= 1073741824) (hn : n <= 1073741824) : PCalls (Pg G) 126 [.str s, Q3 n] (Q3 (JX s n)) := fun h => by
  have eb : ((s.getD n 0).toNat : Int) = bt s n := rfl
  refine Q1 Tryz.func126 (by kernel_rfl) hc126 (by rw [Tryz.ntmps126]; simp) (by rw [Tryz.ntmps126]; decide) ?_
  simp -dsimp -implicitDefEqProofs (disch := omega) only [↓Q0 9, VCA, Nat.reduceEqDiff, ↓reduceIte, reduceCtorEq, c126]
  repeat' (first | ((with_reducible refine brC (fun _ => ?_) fun _ => ?_) <;> try (exfalso; omega)) | (with_reducible refine And.intro ?_ ?_; · omega) | simp -dsimp -implicitDefEqProofs (disch := omega) only [VCA, Nat.reduceEqDiff, ↓reduceIte, reduceCtorEq, exists_eq_right_right, eb])
  all_goals (refine ⟨Sub.refl _, ?_⟩; unfold JX; split)
  all_goals first | rfl | omega
def ldM (b : Int) : Bool := (decide (48 <= b) && decide (b <= 57)) || (decide (97 <= b) && decide (b <= 122)) || (decide (65 <= b) && decide (b <= 90))
def c63 : SFun := ⟨.seq (.reg [o 2 (.mv (.c (.bool false)))]) (.seq (.reg [o 3 (.mv (.t 0)), o 4 (.bin .geq (.t 3) (.c (.int .u8 48))), o 5 (.mv (.t 4)), ⟨some 6, .mv (.t 0), some (5, true)⟩, ⟨some 7, .bin .leq (.t 6) (.c (.int .u8 57)), some (5, true)⟩, o 8 (.pick (.t 5) (.t 7) (.c (.bool false))), o 9 (.mv (.t 8)), ⟨some 10, .mv (.t 0), some (9, false)⟩, ⟨some 11, .bin .geq (.t 10) (.c (.int .u8 97)), some (9, false)⟩, ⟨some 12, .mv (.t 11), some (9, false)⟩, ⟨some 13, .mv (.t 0), some (12, true)⟩, ⟨some 14, .bin .leq (.t 13) (.c (.int .u8 122)), some (12, true)⟩, ⟨some 15, .pick (.t 12) (.t 14) (.c (.bool false)), some (9, false)⟩, o 16 (.pick (.t 9) (.c (.bool true)) (.t 15)), o 17 (.mv (.t 16)), ⟨some 18, .mv (.t 0), some (17, false)⟩, ⟨some 19, .bin .geq (.t 18) (.c (.int .u8 65)), some (17, false)⟩, ⟨some 20, .mv (.t 19), some (17, false)⟩, ⟨some 21, .mv (.t 0), some (20, true)⟩, ⟨some 22, .bin .leq (.t 21) (.c (.int .u8 90)), some (20, true)⟩, ⟨some 23, .pick (.t 20) (.t 22) (.c (.bool false)), some (17, false)⟩, o 24 (.pick (.t 17) (.c (.bool true)) (.t 23)), o 2 (.mv (.t 24))]) .ret), [.tmp 2]⟩
theorem hc63 : Y5 Tryz.prog {} Tryz.f63 = some c63 := by kernel_rfl
theorem ld_ok (b : Int) : PCalls (Pg G) 63 [.int .u8 b] (.bool (ldM b)) := fun h => by
  refine Q1 Tryz.func63 (by kernel_rfl) hc63 (by rw [Tryz.ntmps63]; simp) (by rw [Tryz.ntmps63]; decide) ?_
  simp -dsimp -implicitDefEqProofs (disch := omega) only [↓Q0 5, VCA, ↓reduceIte, reduceCtorEq, c63]
  repeat' (first | ((with_reducible refine brC (fun _ => ?_) fun _ => ?_) <;> try (exfalso; omega)) | (with_reducible refine And.intro ?_ ?_; · omega) | simp -dsimp -implicitDefEqProofs (disch := omega) only [↓Q0 9, ↓Q0 12, ↓Q0 17, ↓Q0 20, VCA, Nat.reduceEqDiff, ↓reduceIte, reduceCtorEq, exists_eq_right_right])
  all_goals (refine ⟨Sub.refl _, ?_⟩; simp_all [ldM])
  all_goals omega
def c128 : SFun := ⟨.seq (.reg [o 2 (.mv (.c (.bool false)))]) (.seq (.reg [o 3 (.mv (.t 0)), o 4 (.bin .eql (.t 3) (.c (.int .u8 61))), o 5 (.mv (.t 4)), ⟨some 6, .mv (.t 0), some (5, false)⟩, ⟨some 7, .bin .geq (.t 6) (.c (.int .u8 48)), some (5, false)⟩, ⟨some 8, .mv (.t 7), some (5, false)⟩, ⟨some 9, .mv (.t 0), some (8, true)⟩, ⟨some 10, .bin .leq (.t 9) (.c (.int .u8 57)), some (8, true)⟩, ⟨some 11, .pick (.t 8) (.t 10) (.c (.bool false)), some (5, false)⟩, o 12 (.pick (.t 5) (.c (.bool true)) (.t 11)), o 13 (.mv (.t 12)), ⟨some 14, .mv (.t 0), some (13, false)⟩, ⟨some 15, .bin .or (.t 14) (.c (.int .u8 32)), some (13, false)⟩, ⟨some 16, .bin .geq (.t 15) (.c (.int .u8 97)), some (13, false)⟩, ⟨some 17, .mv (.t 16), some (13, false)⟩, ⟨some 18, .mv (.t 0), some (17, true)⟩, ⟨some 19, .bin .or (.t 18) (.c (.int .u8 32)), some (17, true)⟩, ⟨some 20, .bin .leq (.t 19) (.c (.int .u8 122)), some (17, true)⟩, ⟨some 21, .pick (.t 17) (.t 20) (.c (.bool false)), some (13, false)⟩, o 22 (.pick (.t 13) (.c (.bool true)) (.t 21)), o 2 (.mv (.t 22))]) .ret), [.tmp 2]⟩
theorem hc128 : Y5 Tryz.prog {} Tryz.f128 = some c128 := by kernel_rfl
theorem entWord_ok (b : Int) (h0 : 0 <= b) (h1 : b < 256) : PCalls (Pg G) 128 [.int .u8 b] (.bool (b == 61 || ldM b)) := fun h => by
  have el : T3 .or .u8 b 32 = UY b := rfl
  have hw : ldM b = ((decide (48 <= b) && decide (b <= 57)) || (decide (97 <= UY b) && decide (UY b <= 122))) := byte_all (p := fun b => ldM b = ((decide (48 <= b) && decide (b <= 57)) || (decide (97 <= UY b) && decide (UY b <= 122)))) (by decide +kernel) b h0 h1
  rw [hw]
  refine Q1 Tryz.func128 (by kernel_rfl) hc128 (by rw [Tryz.ntmps128]; simp) (by rw [Tryz.ntmps128]; decide) ?_
  simp -dsimp -implicitDefEqProofs (disch := omega) only [↓Q0 5, VCA, ↓reduceIte, reduceCtorEq, c128]
  repeat' (first | ((with_reducible refine brC (fun _ => ?_) fun _ => ?_) <;> try (exfalso; omega)) | (with_reducible refine And.intro ?_ ?_; · omega) | simp -dsimp -implicitDefEqProofs (disch := omega) only [↓Q0 8, ↓Q0 13, ↓Q0 17, VCA, Nat.reduceEqDiff, ↓reduceIte, reduceCtorEq, exists_eq_right_right, el])
  all_goals refine ⟨Sub.refl _, ?_⟩
  all_goals (rw [Bool.eq_iff_iff]; simp only [Bool.or_eq_true, Bool.and_eq_true, decide_eq_true_eq, beq_iff_eq, true_iff, Bool.false_eq_true, false_iff]; omega)
def YK (n : Int) : List UInt8 := Lib.encodeRune (if n = 0 \/ n = 13 then 65533 else n)
def c125 : SFun := ⟨.seq (.reg [o 2 (.mv (.c (.str [])))]) (.seq (.seq (.reg [o 3 (.mv (.t 0)), o 4 (.bin .eql (.t 3) (.c (.int .i64 0))), o 5 (.mv (.t 4)), ⟨some 6, .mv (.t 0), some (5, false)⟩, ⟨some 7, .bin .eql (.t 6) (.c (.int .i64 13)), some (5, false)⟩, o 8 (.pick (.t 5) (.c (.bool true)) (.t 7))]) (.cond (.t 8) (.reg [o 0 (.mv (.c (.int .i64 65533)))]) .skip)) (.seq (.reg [o 9 (.mv (.t 0)), o 10 (.cvi .i32 (.t 9)), o 11 (.bldF 21 1 [.t 10]), o 12 (.pcall 130 [.t 11]), o 2 (.mv (.t 12))]) .ret)), [.tmp 2]⟩
theorem hc125 : Y5 Tryz.prog {pure := [130]} Tryz.f125 = some c125 := by kernel_rfl
theorem sign_ok (n : Int) (h0 : 0 <= n) (h1 : n <= 2147483647) : PCalls (Pg G) 125 [Q3 n] (.str (YK n)) := fun h => by
  have e1 : ∀ r : Int, -2147483648 <= r -> r <= 2147483647 -> PCalls (Pg G) 130 [.slc [[.int .i32 r]]] (.str (KQ [r])) := fun r h1 h2 => encode_ok [r] (fun x hx => by simp at hx; subst hx; exact ⟨h1, h2⟩) (by simp)
  have hw : IntKind.i32.wrap n = n := by rw [IntKind.wrap_i32]; omega
  have hw2 : IntKind.i32.wrap 65533 = 65533 := by decide
  refine Q1 Tryz.func125 (by kernel_rfl) hc125 (by rw [Tryz.ntmps125]; simp) (by rw [Tryz.ntmps125]; decide) ?_
  simp -dsimp -implicitDefEqProofs (disch := omega) only [↓Q0 5, VCA, ↓reduceIte, reduceCtorEq, c125]
  repeat' (first | ((with_reducible refine brC (fun _ => ?_) fun _ => ?_) <;> try (exfalso; omega)) | (with_reducible apply pcallE.of; · exact e1 _ (by omega) (by omega)) | (with_reducible refine And.intro ?_ ?_; · omega) | simp -dsimp -implicitDefEqProofs (disch := omega) only [VCA, Nat.reduceEqDiff, ↓reduceIte, reduceCtorEq, J4, exists_eq_right_right, hw, hw2])
  all_goals refine ⟨Sub.refl _, ?_⟩
  all_goals (rw [encM_one]; unfold YK)
  · rw [if_pos (by omega)]
  · rw [if_pos (by omega)]
  · rw [if_neg (by omega)]
def isD (s : List UInt8) (base at_ : Nat) : Bool := decide (at_ < s.length) && decide (0 <= YQ (bt s at_) base)
def WT (s : List UInt8) (base : Nat) : Nat -> Nat -> Int -> Int × Nat
  | 0, a, n => (n, a)
  | f + 1, a, n => if isD s base a = true then WT s base f (a + 1) (min (base * n + YQ (bt s a) base) 2097152) else (n, a)
def runR (s : List UInt8) (base : Nat) : Nat -> Nat -> Int -> Int × Nat
  | 0, a, n => (n, a)
  | f + 1, a, n => if isD s base a = true then runR s base f (a + 1) (min (base * n + YQ (bt s a) base) 2000000) else (n, a)
theorem run_eq (s : List UInt8) (base : Nat) (hb : base = 10 \/ base = 16) : ∀ f a n m, 0 <= n -> n <= 2097152 -> 0 <= m -> m <= 2000000 -> (n = m \/ 1114111 < n /\ 1114111 < m) ->
    (WT s base f a n).2 = (runR s base f a m).2 /\ 0 <= (WT s base f a n).1 /\ (WT s base f a n).1 <= 2097152 /\ 0 <= (runR s base f a m).1 /\ (runR s base f a m).1 <= 2000000 /\ ((WT s base f a n).1 = (runR s base f a m).1 \/ 1114111 < (WT s base f a n).1 /\ 1114111 < (runR s base f a m).1)
  | 0, a, n, m, h1, h2, h3, h4, h => ⟨rfl, h1, h2, h3, h4, h⟩
  | f + 1, a, n, m, h1, h2, h3, h4, h => by
    unfold WT runR
    by_cases hd : isD s base a = true
    · rw [if_pos hd, if_pos hd]
      have hb0 := KT s a
      have hx := hex_dig (bt s a) hb0.1 hb0.2
      unfold isD at hd
      simp only [Bool.and_eq_true, decide_eq_true_eq] at hd
      rcases hb with rfl | rfl
      · exact run_eq s 10 (.inl rfl) f (a + 1) _ _ (by omega) (by omega) (by omega) (by omega) (by omega)
      · exact run_eq s 16 (.inr rfl) f (a + 1) _ _ (by omega) (by omega) (by omega) (by omega) (by omega)
    · rw [if_neg hd, if_neg hd]
      exact ⟨rfl, h1, h2, h3, h4, h⟩
theorem runP_at (s : List UInt8) (base : Nat) : ∀ f a n, a <= (WT s base f a n).2 /\ (WT s base f a n).2 <= max a s.length
  | 0, a, n => by simp [WT]; omega
  | f + 1, a, n => by
    unfold WT
    split
    · rename_i h
      unfold isD at h
      simp only [Bool.and_eq_true, decide_eq_true_eq] at h
      have := runP_at s base f (a + 1) (min (base * n + YQ (bt s a) base) 2097152)
      omega
    · simp; omega
def numB (s : List UInt8) : Nat × Nat := if 2 < s.length /\ (bt s 2 = 120 \/ bt s 2 = 88) then (16, 3) else (10, 2)
def numM (s : List UInt8) : List UInt8 × Nat :=
  let r := WT s (numB s).1 (s.length - (numB s).2) (numB s).2 0
  if r.2 = (numB s).2 then ([], 0) else (YK r.1, JX s r.2)
theorem low120 (b : Int) (h0 : 0 <= b) (h1 : b < 256) : UY b = 120 ↔ (b = 120 \/ b = 88) := byte_all (p := fun b => UY b = 120 ↔ (b = 120 \/ b = 88)) (by decide +kernel) b h0 h1
theorem runP_on {s : List UInt8} {base a : Nat} {n : Int} (h : isD s base a = true) : WT s base (s.length - a) a n = WT s base (s.length - (a + 1)) (a + 1) (min (base * n + YQ (bt s a) base) 2097152) := by
  have h' := h
  unfold isD at h'
  simp only [Bool.and_eq_true, decide_eq_true_eq] at h'
  have : s.length - a = (s.length - (a + 1)) + 1 := by omega
  rw [this, WT, if_pos h]
theorem runP_off {s : List UInt8} {base a : Nat} {n : Int} (h : isD s base a = false) : WT s base (s.length - a) a n = (n, a) := by
  cases s.length - a with
  | zero => rfl
  | succ f => rw [WT, if_neg (by rw [h]; simp)]
def c111 : SFun := ⟨.seq (.reg [o 2 (.mv (.c (.str []))), o 3 (.mv (.c (.int .i64 0)))]) (.seq (.reg [o 4 (.mv (.c (.int .i64 10))), o 5 (.mv (.c (.int .i64 2)))]) (.seq (.seq (.reg [o 8 (.mv (.t 0)), o 9 (.lenS (.t 8)), o 10 (.bin .gtr (.t 9) (.c (.int .i64 2))), o 11 (.mv (.t 10)), ⟨some 12, .mv (.t 0), some (11, true)⟩, ⟨some 13, .idxS (.t 12) (.c (.int .i64 2)), some (11, true)⟩, ⟨some 14, .bin .or (.t 13) (.c (.int .u8 32)), some (11, true)⟩, ⟨some 15, .bin .eql (.t 14) (.c (.int .u8 120)), some (11, true)⟩, o 16 (.pick (.t 11) (.t 15) (.c (.bool false)))]) (.cond (.t 16) (.reg [o 4 (.mv (.c (.int .i64 16))), o 5 (.mv (.c (.int .i64 3)))]) .skip)) (.seq (.reg [o 17 (.mv (.t 5)), o 6 (.mv (.c (.int .i64 0))), o 7 (.mv (.t 17))]) (.seq (.block 0 (.loop (.seq (.seq (.reg [o 18 (.mv (.t 5)), o 19 (.mv (.t 0)), o 20 (.lenS (.t 19)), o 21 (.bin .lss (.t 18) (.t 20)), o 22 (.mv (.t 21)), ⟨some 23, .mv (.t 0), some (22, true)⟩, ⟨some 24, .mv (.t 5), some (22, true)⟩, ⟨some 25, .idxS (.t 23) (.t 24), some (22, true)⟩, ⟨some 26, .mv (.t 4), some (22, true)⟩, ⟨some 27, .pcall 124 [.t 25, .t 26], some (22, true)⟩, ⟨some 28, .bin .geq (.t 27) (.c (.int .i64 0)), some (22, true)⟩, o 29 (.pick (.t 22) (.t 28) (.c (.bool false)))]) (.cond (.t 29) .skip (.exit 0))) (.seq (.block 1 (.reg [o 32 (.mv (.t 4)), o 33 (.mv (.t 6)), o 34 (.bin .mul (.t 32) (.t 33)), o 35 (.mv (.t 0)), o 36 (.mv (.t 5)), o 37 (.idxS (.t 35) (.t 36)), o 38 (.mv (.t 4)), o 39 (.pcall 124 [.t 37, .t 38]), o 40 (.bin .add (.t 34) (.t 39)), o 41 (.min2 (.t 40) (.c (.int .i64 2097152))), o 6 (.mv (.t 41))])) (.reg [o 30 (.mv (.t 5)), o 31 (.bin .add (.t 30) (.c (.int .i64 1))), o 5 (.mv (.t 31))]))))) (.seq (.seq (.reg [o 42 (.mv (.t 5)), o 43 (.mv (.t 7)), o 44 (.bin .eql (.t 42) (.t 43))]) (.cond (.t 44) (.seq (.reg [o 2 (.mv (.c (.str []))), o 3 (.mv (.c (.int .i64 0)))]) .ret) .skip)) (.seq (.reg [o 45 (.mv (.t 6)), o 46 (.pcall 125 [.t 45]), o 47 (.mv (.t 0)), o 48 (.mv (.t 5)), o 49 (.pcall 126 [.t 47, .t 48]), o 2 (.mv (.t 46)), o 3 (.mv (.t 49))]) .ret)))))), [.tmp 2, .tmp 3]⟩
theorem hc111 : Y5 Tryz.prog {pure := [124, 125, 126]} Tryz.f111 = some c111 := by kernel_rfl
theorem number_ok (s : List UInt8) (hs : s.length <= 1073741823) : PCalls (Pg G) 111 [.str s] (.tup [.str (numM s).1, Q3 (numM s).2]) := fun h => by
  have hb2 := KT s 2
  have e2 : ((s.getD (Int.toNat 2) 0).toNat : Int) = bt s 2 := rfl
  have el : T3 .or .u8 (bt s 2) 32 = UY (bt s 2) := rfl
  have hl120 := low120 (bt s 2) hb2.1 hb2.2
  obtain ⟨B, A, hB, hBA⟩ : ∃ B A : Nat, numB s = (B, A) /\ (B = 16 /\ A = 3 /\ 2 < s.length /\ UY (bt s 2) = 120 \/ B = 10 /\ A = 2 /\ ¬ (2 < s.length /\ UY (bt s 2) = 120)) := by
    unfold numB
    by_cases hc : 2 < s.length /\ (bt s 2 = 120 \/ bt s 2 = 88)
    · exact ⟨16, 3, if_pos hc, .inl ⟨rfl, rfl, hc.1, hl120.2 hc.2⟩⟩
    · exact ⟨10, 2, if_neg hc, .inr ⟨rfl, rfl, fun h => hc ⟨h.1, hl120.1 h.2⟩⟩⟩
  have hM : numM s = if (WT s B (s.length - A) A 0).2 = A then ([], 0) else (YK (WT s B (s.length - A) A 0).1, JX s (WT s B (s.length - A) A 0).2) := by
    unfold numM; rw [hB]
  refine Q1 Tryz.func111 (by kernel_rfl) hc111 (by rw [Tryz.ntmps111]; simp) (by rw [Tryz.ntmps111]; decide) ?_
  simp -dsimp -implicitDefEqProofs (disch := omega) only [↓Q0 11, VCA, ↓reduceIte, reduceCtorEq, c111]
  repeat' (first | ((with_reducible refine brC (fun _ => ?_) fun _ => ?_) <;> try (exfalso; omega)) | (with_reducible refine And.intro ?_ ?_; · omega) | simp -dsimp -implicitDefEqProofs (disch := omega) only [VCA, Nat.reduceEqDiff, ↓reduceIte, reduceCtorEq, e2, el])
  all_goals (
    refine LoopVC.intro (fun m e h' => ∃ (a : Nat) (n : Int), m = s.length - a /\ A <= a /\ a <= max A s.length /\ 0 <= n /\ n <= 2097152 /\ e 0 = .str s /\ e 4 = Q3 B /\ e 5 = Q3 a /\ e 6 = Q3 n /\ e 7 = Q3 A /\ h' = h /\ WT s B (s.length - a) a n = WT s B (s.length - A) A 0) _
      ⟨A, 0, rfl, by omega, by omega, by omega, by omega, rfl, congrArg Q3 (by omega), congrArg Q3 (by omega), rfl, congrArg Q3 (by omega), rfl, rfl⟩ ?_
    rintro m e h' ⟨a, n, rfl, ha, ha2, hn0, hn1, he0, he4, he5, he6, he7, rfl, hR⟩
    have hba := KT s a
    have eba : ((s.getD a 0).toNat : Int) = bt s a := rfl
    have hdl : YQ (bt s a) B < 16 := by
      have := hex_dig (bt s a) hba.1 hba.2
      rcases hBA with ⟨h, _⟩ | ⟨h, _⟩
      · subst h; exact this.2.2.2.2.2
      · subst h; have := this.2.2.2.2.1; show YQ (bt s a) 10 < 16; omega
    have hx : 0 <= (B : Int) * n /\ (B : Int) * n <= 16 * 2097152 := by
      rcases hBA with ⟨h, _⟩ | ⟨h, _⟩ <;> (subst h; omega)
    simp -dsimp -implicitDefEqProofs (disch := omega) only [↓Q0 22, VCA, Nat.reduceEqDiff, ↓reduceIte, reduceCtorEq, he0, he5]
    repeat' (first | ((with_reducible refine brC (fun _ => ?_) fun _ => ?_) <;> try (exfalso; omega)) | (with_reducible apply pcallE.of; · exact digit_ok _ _ (by omega) (by omega)) | (with_reducible apply pcallE.of; · exact sign_ok _ (by omega) (by omega)) | (with_reducible apply pcallE.of; · exact semi_ok _ _ (by omega) (by omega)) | (with_reducible refine And.intro ?_ ?_; · omega) | simp -dsimp -implicitDefEqProofs (disch := omega) only [VCA, Nat.reduceEqDiff, ↓reduceIte, reduceCtorEq, exists_eq_right_right, he0, he4, he5, he6, he7, eba])
    all_goals first
      | (have hoff : isD s B a = false := by unfold isD; simp; omega
         rw [runP_off hoff] at hR
         rw [hM, <- hR]
         first | (rw [if_pos (by omega)]; exact ⟨Sub.refl _, rfl⟩) | (rw [if_neg (by omega)]; exact ⟨Sub.refl _, rfl⟩))
      | (have hon : isD s B a = true := by unfold isD; simp; omega
         rw [runP_on hon] at hR
         exact ⟨_, by omega, a + 1, _, rfl, by omega, by omega, by omega, by omega, by omega, rfl, hR⟩))
def XJ (s p : List UInt8) : Bool := decide (p.length <= s.length) && s.take p.length == p
def c65 : SFun := ⟨.seq (.reg [o 4 (.mv (.c (.bool false)))]) (.seq (.reg [o 5 (.mv (.t 0)), o 6 (.lenS (.t 5)), o 7 (.mv (.t 1)), o 8 (.lenS (.t 7)), o 9 (.bin .geq (.t 6) (.t 8)), o 10 (.mv (.t 9)), ⟨some 11, .mv (.t 0), some (10, true)⟩, ⟨some 12, .mv (.t 1), some (10, true)⟩, ⟨some 13, .lenS (.t 12), some (10, true)⟩, ⟨some 14, .slS (.t 11) none (some (.t 13)), some (10, true)⟩, ⟨some 15, .mv (.t 1), some (10, true)⟩, ⟨some 16, .bin .eql (.t 14) (.t 15), some (10, true)⟩, o 17 (.pick (.t 10) (.t 16) (.c (.bool false))), o 4 (.mv (.t 17))]) .ret), [.tmp 4]⟩
theorem hc65 : Y5 Tryz.prog {} Tryz.f65 = some c65 := by kernel_rfl
theorem slHasPre_ok (s p : List UInt8) (hs : s.length <= 1073741824) (hp : p.length <= 1073741824) : PCalls (Pg G) 65 [.str s, .str p] (.bool (XJ s p)) := fun h => by
  refine Q1 Tryz.func65 (by kernel_rfl) hc65 (by rw [Tryz.ntmps65]; simp) (by rw [Tryz.ntmps65]; decide) ?_
  simp -dsimp -implicitDefEqProofs (disch := omega) only [↓Q0 10, VCA, Nat.reduceEqDiff, ↓reduceIte, reduceCtorEq, c65]
  refine Br.dec (fun h1 => ?_) (fun h1 => ?_)
  · simp -dsimp -implicitDefEqProofs (disch := omega) only [VCA, Nat.reduceEqDiff, ↓reduceIte, reduceCtorEq, exists_eq_right_right]
    have h1' : p.length <= s.length := by omega
    refine ⟨by omega, Sub.refl _, ?_⟩
    simp [XJ, h1']
  · simp -dsimp -implicitDefEqProofs (disch := omega) only [VCA, Nat.reduceEqDiff, ↓reduceIte, exists_eq_right_right]
    have h1' : ¬ p.length <= s.length := by omega
    exact ⟨Sub.refl _, by simp [XJ, h1']⟩
def c46 : SFun := ⟨.seq (.reg [o 4 (.mv (.c (.bool false)))]) (.seq (.reg [o 5 (.mv (.t 0)), o 6 (.mv (.t 1)), o 7 (.pcall 65 [.t 5, .t 6]), o 4 (.mv (.t 7))]) .ret), [.tmp 4]⟩
theorem hc46 : Y5 Tryz.prog {pure := [65]} Tryz.f46 = some c46 := by kernel_rfl
theorem hasPre_ok (s p : List UInt8) (hs : s.length <= 1073741824) (hp : p.length <= 1073741824) : PCalls (Pg G) 46 [.str s, .str p] (.bool (XJ s p)) := fun h => by
  refine Q1 Tryz.func46 (by kernel_rfl) hc46 (by rw [Tryz.ntmps46]; simp) (by rw [Tryz.ntmps46]; decide) ?_
  simp -dsimp -implicitDefEqProofs (disch := omega) only [VCA, Nat.reduceEqDiff, ↓reduceIte, reduceCtorEq, c46]
  refine pcallE.of (slHasPre_ok s p hs hp) ?_; simp -dsimp -implicitDefEqProofs (disch := omega) only [VCA, ↓reduceIte, exists_eq_right]
  exact Sub.refl _
structure EName where
  word : List UInt8
  sign : Int
  bare : Bool
deriving DecidableEq, Inhabited
def eName (x : EName) : List AVal := [.str x.word, .int .i32 x.sign, .bool x.bare]
instance : LenE eName 3 := ⟨fun _ => rfl⟩
def entT : List EName := [⟨[97, 109, 112], 38, true⟩, ⟨[108, 116], 60, true⟩, ⟨[103, 116], 62, true⟩, ⟨[113, 117, 111, 116], 34, true⟩, ⟨[110, 98, 115, 112], 160, true⟩, ⟨[99, 111, 112, 121], 169, true⟩, ⟨[114, 101, 103], 174, true⟩, ⟨[116, 105, 109, 101, 115], 215, true⟩, ⟨[100, 105, 118, 105, 100, 101], 247, true⟩, ⟨[101, 97, 99, 117, 116, 101], 233, true⟩, ⟨[97, 117, 109, 108], 228, true⟩, ⟨[111, 117, 109, 108], 246, true⟩, ⟨[117, 117, 109, 108], 252, true⟩, ⟨[115, 122, 108, 105, 103], 223, true⟩, ⟨[121, 101, 110], 165, true⟩, ⟨[99, 101, 110, 116], 162, true⟩, ⟨[112, 111, 117, 110, 100], 163, true⟩, ⟨[115, 101, 99, 116], 167, true⟩, ⟨[112, 97, 114, 97], 182, true⟩, ⟨[109, 105, 100, 100, 111, 116], 183, true⟩, ⟨[110, 111, 116], 172, true⟩, ⟨[100, 101, 103], 176, true⟩, ⟨[102, 114, 97, 99, 49, 50], 189, true⟩, ⟨[102, 114, 97, 99, 49, 52], 188, true⟩, ⟨[97, 112, 111, 115], 39, false⟩, ⟨[104, 101, 108, 108, 105, 112], 8230, false⟩, ⟨[109, 100, 97, 115, 104], 8212, false⟩, ⟨[110, 100, 97, 115, 104], 8211, false⟩, ⟨[108, 115, 113, 117, 111], 8216, false⟩, ⟨[114, 115, 113, 117, 111], 8217, false⟩, ⟨[108, 100, 113, 117, 111], 8220, false⟩, ⟨[114, 100, 113, 117, 111], 8221, false⟩, ⟨[98, 117, 108, 108], 8226, false⟩, ⟨[101, 117, 114, 111], 8364, false⟩, ⟨[116, 114, 97, 100, 101], 8482, false⟩, ⟨[108, 97, 114, 114], 8592, false⟩, ⟨[114, 97, 114, 114], 8594, false⟩, ⟨[105, 110, 102, 105, 110], 8734, false⟩, ⟨[110, 101], 8800, false⟩, ⟨[108, 101], 8804, false⟩, ⟨[103, 101], 8805, false⟩, ⟨[110, 111, 116, 105, 110], 8713, false⟩, ⟨[97, 108, 112, 104, 97], 945, false⟩, ⟨[98, 101, 116, 97], 946, false⟩, ⟨[112, 105], 960, false⟩, ⟨[115, 117, 109], 8721, false⟩, ⟨[109, 105, 110, 117, 115], 8722, false⟩, ⟨[108, 97, 110, 103], 10216, false⟩]
def c127 : SFun := ⟨.seq (.reg [o 0 (.mv (.c .emp))]) (.seq (.reg [o 1 (.bld [.str [], .int .i32 0, .bool false] [(0, (1, (.c (.str [97, 109, 112])))), (1, (1, (.c (.int .i32 38)))), (2, (1, (.c (.bool true))))]), o 2 (.bld [.str [], .int .i32 0, .bool false] [(0, (1, (.c (.str [108, 116])))), (1, (1, (.c (.int .i32 60)))), (2, (1, (.c (.bool true))))]), o 3 (.bld [.str [], .int .i32 0, .bool false] [(0, (1, (.c (.str [103, 116])))), (1, (1, (.c (.int .i32 62)))), (2, (1, (.c (.bool true))))]), o 4 (.bld [.str [], .int .i32 0, .bool false] [(0, (1, (.c (.str [113, 117, 111, 116])))), (1, (1, (.c (.int .i32 34)))), (2, (1, (.c (.bool true))))]), o 5 (.bld [.str [], .int .i32 0, .bool false] [(0, (1, (.c (.str [110, 98, 115, 112])))), (1, (1, (.c (.int .i32 160)))), (2, (1, (.c (.bool true))))]), o 6 (.bld [.str [], .int .i32 0, .bool false] [(0, (1, (.c (.str [99, 111, 112, 121])))), (1, (1, (.c (.int .i32 169)))), (2, (1, (.c (.bool true))))]), o 7 (.bld [.str [], .int .i32 0, .bool false] [(0, (1, (.c (.str [114, 101, 103])))), (1, (1, (.c (.int .i32 174)))), (2, (1, (.c (.bool true))))]), o 8 (.bld [.str [], .int .i32 0, .bool false] [(0, (1, (.c (.str [116, 105, 109, 101, 115])))), (1, (1, (.c (.int .i32 215)))), (2, (1, (.c (.bool true))))]), o 9 (.bld [.str [], .int .i32 0, .bool false] [(0, (1, (.c (.str [100, 105, 118, 105, 100, 101])))), (1, (1, (.c (.int .i32 247)))), (2, (1, (.c (.bool true))))]), o 10 (.bld [.str [], .int .i32 0, .bool false] [(0, (1, (.c (.str [101, 97, 99, 117, 116, 101])))), (1, (1, (.c (.int .i32 233)))), (2, (1, (.c (.bool true))))]), o 11 (.bld [.str [], .int .i32 0, .bool false] [(0, (1, (.c (.str [97, 117, 109, 108])))), (1, (1, (.c (.int .i32 228)))), (2, (1, (.c (.bool true))))]), o 12 (.bld [.str [], .int .i32 0, .bool false] [(0, (1, (.c (.str [111, 117, 109, 108])))), (1, (1, (.c (.int .i32 246)))), (2, (1, (.c (.bool true))))]), o 13 (.bld [.str [], .int .i32 0, .bool false] [(0, (1, (.c (.str [117, 117, 109, 108])))), (1, (1, (.c (.int .i32 252)))), (2, (1, (.c (.bool true))))]), o 14 (.bld [.str [], .int .i32 0, .bool false] [(0, (1, (.c (.str [115, 122, 108, 105, 103])))), (1, (1, (.c (.int .i32 223)))), (2, (1, (.c (.bool true))))]), o 15 (.bld [.str [], .int .i32 0, .bool false] [(0, (1, (.c (.str [121, 101, 110])))), (1, (1, (.c (.int .i32 165)))), (2, (1, (.c (.bool true))))]), o 16 (.bld [.str [], .int .i32 0, .bool false] [(0, (1, (.c (.str [99, 101, 110, 116])))), (1, (1, (.c (.int .i32 162)))), (2, (1, (.c (.bool true))))]), o 17 (.bld [.str [], .int .i32 0, .bool false] [(0, (1, (.c (.str [112, 111, 117, 110, 100])))), (1, (1, (.c (.int .i32 163)))), (2, (1, (.c (.bool true))))]), o 18 (.bld [.str [], .int .i32 0, .bool false] [(0, (1, (.c (.str [115, 101, 99, 116])))), (1, (1, (.c (.int .i32 167)))), (2, (1, (.c (.bool true))))]), o 19 (.bld [.str [], .int .i32 0, .bool false] [(0, (1, (.c (.str [112, 97, 114, 97])))), (1, (1, (.c (.int .i32 182)))), (2, (1, (.c (.bool true))))]), o 20 (.bld [.str [], .int .i32 0, .bool false] [(0, (1, (.c (.str [109, 105, 100, 100, 111, 116])))), (1, (1, (.c (.int .i32 183)))), (2, (1, (.c (.bool true))))]), o 21 (.bld [.str [], .int .i32 0, .bool false] [(0, (1, (.c (.str [110, 111, 116])))), (1, (1, (.c (.int .i32 172)))), (2, (1, (.c (.bool true))))]), o 22 (.bld [.str [], .int .i32 0, .bool false] [(0, (1, (.c (.str [100, 101, 103])))), (1, (1, (.c (.int .i32 176)))), (2, (1, (.c (.bool true))))]), o 23 (.bld [.str [], .int .i32 0, .bool false] [(0, (1, (.c (.str [102, 114, 97, 99, 49, 50])))), (1, (1, (.c (.int .i32 189)))), (2, (1, (.c (.bool true))))]), o 24 (.bld [.str [], .int .i32 0, .bool false] [(0, (1, (.c (.str [102, 114, 97, 99, 49, 52])))), (1, (1, (.c (.int .i32 188)))), (2, (1, (.c (.bool true))))]), o 25 (.bld [.str [], .int .i32 0, .bool false] [(0, (1, (.c (.str [97, 112, 111, 115])))), (1, (1, (.c (.int .i32 39)))), (2, (1, (.c (.bool false))))]), o 26 (.bld [.str [], .int .i32 0, .bool false] [(0, (1, (.c (.str [104, 101, 108, 108, 105, 112])))), (1, (1, (.c (.int .i32 8230)))), (2, (1, (.c (.bool false))))]), o 27 (.bld [.str [], .int .i32 0, .bool false] [(0, (1, (.c (.str [109, 100, 97, 115, 104])))), (1, (1, (.c (.int .i32 8212)))), (2, (1, (.c (.bool false))))]), o 28 (.bld [.str [], .int .i32 0, .bool false] [(0, (1, (.c (.str [110, 100, 97, 115, 104])))), (1, (1, (.c (.int .i32 8211)))), (2, (1, (.c (.bool false))))]), o 29 (.bld [.str [], .int .i32 0, .bool false] [(0, (1, (.c (.str [108, 115, 113, 117, 111])))), (1, (1, (.c (.int .i32 8216)))), (2, (1, (.c (.bool false))))]), o 30 (.bld [.str [], .int .i32 0, .bool false] [(0, (1, (.c (.str [114, 115, 113, 117, 111])))), (1, (1, (.c (.int .i32 8217)))), (2, (1, (.c (.bool false))))]), o 31 (.bld [.str [], .int .i32 0, .bool false] [(0, (1, (.c (.str [108, 100, 113, 117, 111])))), (1, (1, (.c (.int .i32 8220)))), (2, (1, (.c (.bool false))))]), o 32 (.bld [.str [], .int .i32 0, .bool false] [(0, (1, (.c (.str [114, 100, 113, 117, 111])))), (1, (1, (.c (.int .i32 8221)))), (2, (1, (.c (.bool false))))]), o 33 (.bld [.str [], .int .i32 0, .bool false] [(0, (1, (.c (.str [98, 117, 108, 108])))), (1, (1, (.c (.int .i32 8226)))), (2, (1, (.c (.bool false))))]), o 34 (.bld [.str [], .int .i32 0, .bool false] [(0, (1, (.c (.str [101, 117, 114, 111])))), (1, (1, (.c (.int .i32 8364)))), (2, (1, (.c (.bool false))))]), o 35 (.bld [.str [], .int .i32 0, .bool false] [(0, (1, (.c (.str [116, 114, 97, 100, 101])))), (1, (1, (.c (.int .i32 8482)))), (2, (1, (.c (.bool false))))]), o 36 (.bld [.str [], .int .i32 0, .bool false] [(0, (1, (.c (.str [108, 97, 114, 114])))), (1, (1, (.c (.int .i32 8592)))), (2, (1, (.c (.bool false))))]), o 37 (.bld [.str [], .int .i32 0, .bool false] [(0, (1, (.c (.str [114, 97, 114, 114])))), (1, (1, (.c (.int .i32 8594)))), (2, (1, (.c (.bool false))))]), o 38 (.bld [.str [], .int .i32 0, .bool false] [(0, (1, (.c (.str [105, 110, 102, 105, 110])))), (1, (1, (.c (.int .i32 8734)))), (2, (1, (.c (.bool false))))]), o 39 (.bld [.str [], .int .i32 0, .bool false] [(0, (1, (.c (.str [110, 101])))), (1, (1, (.c (.int .i32 8800)))), (2, (1, (.c (.bool false))))]), o 40 (.bld [.str [], .int .i32 0, .bool false] [(0, (1, (.c (.str [108, 101])))), (1, (1, (.c (.int .i32 8804)))), (2, (1, (.c (.bool false))))]), o 41 (.bld [.str [], .int .i32 0, .bool false] [(0, (1, (.c (.str [103, 101])))), (1, (1, (.c (.int .i32 8805)))), (2, (1, (.c (.bool false))))]), o 42 (.bld [.str [], .int .i32 0, .bool false] [(0, (1, (.c (.str [110, 111, 116, 105, 110])))), (1, (1, (.c (.int .i32 8713)))), (2, (1, (.c (.bool false))))]), o 43 (.bld [.str [], .int .i32 0, .bool false] [(0, (1, (.c (.str [97, 108, 112, 104, 97])))), (1, (1, (.c (.int .i32 945)))), (2, (1, (.c (.bool false))))]), o 44 (.bld [.str [], .int .i32 0, .bool false] [(0, (1, (.c (.str [98, 101, 116, 97])))), (1, (1, (.c (.int .i32 946)))), (2, (1, (.c (.bool false))))]), o 45 (.bld [.str [], .int .i32 0, .bool false] [(0, (1, (.c (.str [112, 105])))), (1, (1, (.c (.int .i32 960)))), (2, (1, (.c (.bool false))))]), o 46 (.bld [.str [], .int .i32 0, .bool false] [(0, (1, (.c (.str [115, 117, 109])))), (1, (1, (.c (.int .i32 8721)))), (2, (1, (.c (.bool false))))]), o 47 (.bld [.str [], .int .i32 0, .bool false] [(0, (1, (.c (.str [109, 105, 110, 117, 115])))), (1, (1, (.c (.int .i32 8722)))), (2, (1, (.c (.bool false))))]), o 48 (.bld [.str [], .int .i32 0, .bool false] [(0, (1, (.c (.str [108, 97, 110, 103])))), (1, (1, (.c (.int .i32 10216)))), (2, (1, (.c (.bool false))))]), o 49 (.bldF 160 3 [.t 1, .t 2, .t 3, .t 4, .t 5, .t 6, .t 7, .t 8, .t 9, .t 10, .t 11, .t 12, .t 13, .t 14, .t 15, .t 16, .t 17, .t 18, .t 19, .t 20, .t 21, .t 22, .t 23, .t 24, .t 25, .t 26, .t 27, .t 28, .t 29, .t 30, .t 31, .t 32, .t 33, .t 34, .t 35, .t 36, .t 37, .t 38, .t 39, .t 40, .t 41, .t 42, .t 43, .t 44, .t 45, .t 46, .t 47, .t 48]), o 0 (.mv (.t 49))]) .ret), [.tmp 0]⟩
theorem hc127 : Y5 Tryz.prog {} Tryz.f127 = some c127 := by kernel_rfl
theorem entNames_ok : PCalls (Pg G) 127 [] (sl eName entT) := fun h => by
  refine Q1 Tryz.func127 (by kernel_rfl) hc127 (by rw [Tryz.ntmps127]; simp) (by rw [Tryz.ntmps127]; decide) ?_
  simp -dsimp -implicitDefEqProofs (disch := omega) only [VCA, Nat.reduceEqDiff, Nat.reduceAdd, Nat.reduceLeDiff, ↓reduceIte, J4, X7, Y6, exists_eq_right_right, c127]
  exact ⟨Sub.refl _, rfl⟩
theorem entT_ok : (entT.all fun x => decide (1 <= x.word.length) && decide (x.word.length <= 6) && (x.word.getLastD 0 != 59) && decide (13 < x.sign) && decide (x.sign < 65533)) = true := by decide +kernel
theorem entT_nodup : (entT.map (·.word)).Nodup := by decide +kernel
def ZV : List (Nat × Nat × Nat) := [(0, 3, 6), (7, 9, 12), (13, 15, 18), (19, 23, 26), (27, 31, 35), (36, 40, 44), (45, 48, 52), (53, 58, 62), (63, 69, 73), (74, 80, 84), (85, 89, 93), (94, 98, 102), (103, 107, 111), (112, 117, 121), (122, 125, 129), (130, 134, 138), (139, 144, 148), (149, 153, 157), (158, 162, 166), (167, 173, 177), (178, 181, 185), (186, 189, 193), (194, 200, 204), (205, 211, 215), (216, 220, 223), (224, 230, 235), (236, 241, 246), (247, 252, 257), (258, 263, 268), (269, 274, 279), (280, 285, 290), (291, 296, 301), (302, 306, 311), (312, 316, 321), (322, 327, 332), (333, 337, 342), (343, 347, 352), (353, 358, 363), (364, 366, 371), (372, 374, 379), (380, 382, 387), (388, 393, 398), (399, 404, 408), (409, 413, 417), (418, 420, 424), (425, 428, 433), (434, 439, 444), (445, 449, 455)]
def k82_1 : List UInt8 := [97, 109, 112, 42, 51, 56, 32, 108, 116, 42, 54, 48, 32, 103, 116, 42, 54, 50, 32, 113, 117, 111, 116, 42, 51, 52, 32, 110, 98, 115, 112, 42, 49, 54, 48, 32, 99, 111, 112, 121, 42, 49, 54, 57, 32, 114, 101, 103, 42, 49, 55, 52, 32, 116, 105, 109, 101, 115, 42, 50, 49, 53, 32, 100, 105, 118, 105, 100, 101, 42, 50, 52, 55, 32, 101, 97, 99, 117, 116, 101, 42, 50, 51, 51, 32, 97, 117, 109, 108, 42, 50, 50, 56, 32, 111, 117, 109, 108, 42, 50, 52, 54, 32, 117, 117, 109, 108, 42, 50, 53, 50, 32, 115, 122, 108, 105, 103, 42, 50, 50, 51, 32, 121, 101, 110, 42, 49, 54, 53, 32, 99, 101, 110, 116, 42, 49, 54, 50, 32, 112, 111, 117, 110, 100, 42, 49, 54, 51, 32, 115, 101, 99, 116, 42, 49, 54, 55, 32, 112, 97, 114, 97, 42, 49, 56, 50, 32, 109, 105, 100, 100, 111, 116, 42, 49, 56, 51, 32, 110, 111, 116, 42, 49, 55, 50, 32, 100, 101, 103, 42, 49, 55, 54, 32, 102, 114, 97, 99, 49, 50, 42, 49, 56, 57, 32, 102, 114, 97, 99, 49, 52, 42, 49, 56, 56, 32, 97, 112, 111, 115, 58, 51, 57, 32, 104, 101, 108, 108, 105, 112, 58, 56, 50, 51, 48, 32, 109, 100, 97, 115, 104, 58, 56, 50, 49, 50, 32, 110, 100, 97, 115, 104, 58, 56, 50, 49, 49, 32, 108, 115, 113, 117, 111, 58, 56, 50, 49, 54, 32, 114, 115, 113, 117, 111, 58, 56, 50, 49, 55, 32, 108, 100, 113, 117, 111, 58, 56, 50, 50, 48, 32, 114, 100, 113, 117, 111, 58, 56, 50, 50, 49, 32, 98, 117, 108, 108, 58, 56, 50, 50, 54, 32, 101, 117, 114, 111, 58, 56, 51, 54, 52, 32, 116, 114, 97, 100, 101, 58, 56, 52, 56, 50, 32, 108, 97, 114, 114, 58, 56, 53, 57, 50, 32, 114, 97, 114, 114, 58, 56, 53, 57, 52, 32, 105, 110, 102, 105, 110, 58, 56, 55, 51, 52, 32, 110, 101, 58, 56, 56, 48, 48, 32, 108, 101, 58, 56, 56, 48, 52, 32, 103, 101, 58, 56, 56, 48, 53, 32, 110, 111, 116, 105, 110, 58, 56, 55, 49, 51, 32, 97, 108, 112, 104, 97, 58, 57, 52, 53, 32, 98, 101, 116, 97, 58, 57, 52, 54, 32, 112, 105, 58, 57, 54, 48, 32, 115, 117, 109, 58, 56, 55, 50, 49, 32, 109, 105, 110, 117, 115, 58, 56, 55, 50, 50, 32, 108, 97, 110, 103, 58, 49, 48, 50, 49, 54, 32]
def c82 : SFun := ⟨.seq (.reg [o 0 (.mv (.c (.str [])))]) (.seq (.reg [o 0 (.mv (.c (.str k82_1)))]) .ret), [.tmp 0]⟩
theorem hc82 : Y5 Tryz.prog {} Tryz.f82 = some c82 := by kernel_rfl
def tabT : List UInt8 := k82_1
theorem tableText_ok : PCalls (Pg G) 82 [] (.str tabT) := fun h => by
  refine Q1 Tryz.func82 (by kernel_rfl) hc82 (by rw [Tryz.ntmps82]; simp) (by rw [Tryz.ntmps82]; decide) ?_
  simp -dsimp -implicitDefEqProofs (disch := omega) only [VCA, ↓reduceIte, exists_eq_right_right, c82]
  exact ⟨Sub.refl _, rfl⟩
def numAt (t : List UInt8) (a : Nat) : Nat -> Int
  | 0 => 0
  | m + 1 => 10 * numAt t a m + (bt t (a + m) - 48)
def offN (j : Nat) : Nat := if j < 48 then (nth ZV j).1 else tabT.length
def okRow (j : Nat) : Bool :=
  ((List.range tabT.length).all fun i => (decide (i < (nth ZV j).1) || decide ((nth ZV j).2.1 <= i) || (bt tabT i != 42 && bt tabT i != 58)) && (decide (i <= (nth ZV j).2.1) || decide ((nth ZV j).2.2 <= i) || bt tabT i != 32)
    && (decide (i <= (nth ZV j).2.1) || decide ((nth ZV j).2.2 <= i) || (decide (48 <= bt tabT i) && decide (bt tabT i < 58)))) &&
  (bt tabT (nth ZV j).2.1 == 42 || bt tabT (nth ZV j).2.1 == 58) && bt tabT (nth ZV j).2.2 == 32 && decide ((nth ZV j).1 < (nth ZV j).2.1) && decide ((nth ZV j).2.1 < (nth ZV j).2.2) && decide ((nth ZV j).2.2 < tabT.length) &&
  (offN (j + 1) == (nth ZV j).2.2 + 1) && ((tabT.take (nth ZV j).2.1).drop (nth ZV j).1 == (nth entT j).word) && ((bt tabT (nth ZV j).2.1 == 42) == (nth entT j).bare) &&
  (numAt tabT ((nth ZV j).2.1 + 1) ((nth ZV j).2.2 - (nth ZV j).2.1 - 1) == (nth entT j).sign) &&
  ((List.range ((nth ZV j).2.2 - (nth ZV j).2.1)).all fun m => decide (0 <= numAt tabT ((nth ZV j).2.1 + 1) m) && decide (numAt tabT ((nth ZV j).2.1 + 1) m <= 100000))
theorem okRows : ((List.range 48).all okRow) = true := by decide +kernel
structure RowOK (j o e k : Nat) (x : EName) : Prop where
  a1 : ∀ i, o <= i -> i < e -> bt tabT i ≠ 42 /\ bt tabT i ≠ 58
  a2 : bt tabT e = 42 \/ bt tabT e = 58
  a3 : ∀ i, e < i -> i < k -> bt tabT i ≠ 32 /\ 48 <= bt tabT i /\ bt tabT i < 58
  a4 : bt tabT k = 32
  a5 : o < e
  a6 : e < k
  a7 : k < tabT.length
  a8 : offN (j + 1) = k + 1
  a9 : (tabT.take e).drop o = x.word
  a10 : (bt tabT e == 42) = x.bare
  a11 : numAt tabT (e + 1) (k - e - 1) = x.sign
  a12 : ∀ m, m < k - e -> 0 <= numAt tabT (e + 1) m /\ numAt tabT (e + 1) m <= 100000
theorem rowOK {j : Nat} (h : j < 48) : RowOK j (nth ZV j).1 (nth ZV j).2.1 (nth ZV j).2.2 (nth entT j) := by
  have := List.all_eq_true.1 okRows j (List.mem_range.2 h)
  unfold okRow at this
  simp only [Bool.and_eq_true, List.all_eq_true, List.mem_range, Bool.or_eq_true, decide_eq_true_eq, beq_iff_eq, bne_iff_ne] at this
  obtain ⟨⟨⟨⟨⟨⟨⟨⟨⟨⟨h1, h2⟩, h3⟩, h4⟩, h5⟩, h6⟩, h7⟩, h8⟩, h9⟩, h10⟩, h11⟩ := this
  refine ⟨fun i h1' h2' => ?_, h2, fun i h1' h2' => ?_, h3, h4, h5, h6, h7, h8, h9, h10, h11⟩
  · have := (h1 i (by omega)).1.1
    omega
  · have q := h1 i (by omega)
    have q1 := q.1.2
    have q2 := q.2
    omega
theorem tabT_len : tabT.length = 456 := by decide +kernel
def rowM (nm : List UInt8) : Int × Bool := match entT.find? (fun x => x.word == nm) with
  | some x => (x.sign, x.bare)
  | none => (-1, false)
theorem entT_len : entT.length = 48 := rfl
theorem rowM_some {nm : List UInt8} {j : Nat} (hj : j < 48) (h1 : ∀ i, i < j -> (nth entT i).word ≠ nm) (h2 : (nth entT j).word = nm) : rowM nm = ((nth entT j).sign, (nth entT j).bare) := by
  have : entT.find? (fun x => x.word == nm) = some (nth entT j) := by
    have hn : ∀ i (hi : i < entT.length), entT[i] = nth entT i := fun i hi => by have := V8 hi; rw [List.getElem?_eq_getElem hi] at this; exact Option.some.inj this
    rw [List.find?_eq_some_iff_getElem]
    refine ⟨by simpa using h2, j, by rw [entT_len]; exact hj, (hn j _), fun i hi => ?_⟩
    rw [hn i (by rw [entT_len]; omega)]
    simpa using h1 i hi
  rw [rowM, this]
theorem rowM_none {nm : List UInt8} (h1 : ∀ i, i < 48 -> (nth entT i).word ≠ nm) : rowM nm = (-1, false) := by
  have : entT.find? (fun x => x.word == nm) = none := by
    rw [List.find?_eq_none]
    intro x hx
    obtain ⟨k, hk, rfl⟩ := mem_nth hx
    rw [entT_len] at hk
    simpa using h1 k hk
  rw [rowM, this]
def c62 : SFun := ⟨.seq (.reg [o 2 (.mv (.c (.int .i64 0))), o 3 (.mv (.c (.bool false)))]) (.seq (.reg [o 9 (.pcall 82 []), o 4 (.mv (.t 9))]) (.seq (.reg [o 5 (.mv (.c (.int .i64 0)))]) (.seq (.block 0 (.loop (.seq (.seq (.reg [o 10 (.mv (.t 5)), o 11 (.mv (.t 4)), o 12 (.lenS (.t 11)), o 13 (.bin .lss (.t 10) (.t 12))]) (.cond (.t 13) .skip (.exit 0))) (.block 1 (.seq (.reg [o 14 (.mv (.t 5)), o 6 (.mv (.t 14))]) (.seq (.block 2 (.loop (.seq (.seq (.reg [o 15 (.mv (.t 4)), o 16 (.mv (.t 6)), o 17 (.idxS (.t 15) (.t 16)), o 18 (.bin .neq (.t 17) (.c (.int .u8 42))), o 19 (.mv (.t 18)), ⟨some 20, .mv (.t 4), some (19, true)⟩, ⟨some 21, .mv (.t 6), some (19, true)⟩, ⟨some 22, .idxS (.t 20) (.t 21), some (19, true)⟩, ⟨some 23, .bin .neq (.t 22) (.c (.int .u8 58)), some (19, true)⟩, o 24 (.pick (.t 19) (.t 23) (.c (.bool false)))]) (.cond (.t 24) .skip (.exit 2))) (.block 3 (.reg [o 25 (.mv (.t 6)), o 26 (.bin .add (.t 25) (.c (.int .i64 1))), o 6 (.mv (.t 26))]))))) (.seq (.reg [o 7 (.mv (.c (.int .i64 0)))]) (.seq (.reg [o 27 (.mv (.t 6)), o 28 (.bin .add (.t 27) (.c (.int .i64 1))), o 8 (.mv (.t 28))]) (.seq (.block 4 (.loop (.seq (.seq (.reg [o 29 (.mv (.t 4)), o 30 (.mv (.t 8)), o 31 (.idxS (.t 29) (.t 30)), o 32 (.bin .neq (.t 31) (.c (.int .u8 32)))]) (.cond (.t 32) .skip (.exit 4))) (.block 5 (.seq (.reg [o 33 (.mv (.t 7)), o 34 (.bin .mul (.c (.int .i64 10)) (.t 33)), o 35 (.mv (.t 4)), o 36 (.mv (.t 8)), o 37 (.idxS (.t 35) (.t 36)), o 38 (.bin .sub (.t 37) (.c (.int .u8 48))), o 39 (.cvi .i64 (.t 38)), o 40 (.bin .add (.t 34) (.t 39)), o 7 (.mv (.t 40))]) (.reg [o 41 (.mv (.t 8)), o 42 (.bin .add (.t 41) (.c (.int .i64 1))), o 8 (.mv (.t 42))])))))) (.seq (.seq (.reg [o 43 (.mv (.t 4)), o 44 (.mv (.t 5)), o 45 (.mv (.t 6)), o 46 (.slS (.t 43) (some (.t 44)) (some (.t 45))), o 47 (.mv (.t 0)), o 48 (.bin .eql (.t 46) (.t 47))]) (.cond (.t 48) (.seq (.dreg [(o 49 (.mv (.t 7)), none), (o 50 (.mv (.t 4)), none), (o 51 (.mv (.t 6)), none), (o 52 (.idxS (.t 50) (.t 51)), none), (o 53 (.bin .eql (.t 52) (.c (.int .u8 42))), none), (o 2 (.mv (.t 49)), none), (o 3 (.mv (.t 53)), none)]) .ret) .skip)) (.reg [o 54 (.mv (.t 8)), o 55 (.bin .add (.t 54) (.c (.int .i64 1))), o 5 (.mv (.t 55))]))))))))))) (.seq (.reg [o 2 (.mv (.c (.int .i64 (-1)))), o 3 (.mv (.c (.bool false)))]) .ret)))), [.tmp 2, .tmp 3]⟩
theorem hc62 : Y5 Tryz.prog {pure := [82]} Tryz.f62 = some c62 := by kernel_rfl
theorem rowOf_ok (nm : List UInt8) (hs : nm.length <= 1073741824) : PCalls (Pg G) 62 [.str nm] (.tup [Q3 (rowM nm).1, .bool (rowM nm).2]) := fun h => by
  have hT := tabT_len
  refine Q1 Tryz.func62 (by kernel_rfl) hc62 (by rw [Tryz.ntmps62]; simp) (by rw [Tryz.ntmps62]; decide) ?_
  simp -dsimp -implicitDefEqProofs (disch := omega) only [VCA, c62]
  refine pcallE.of (tableText_ok) ?_; simp -dsimp -implicitDefEqProofs (disch := omega) only [VCA, ↓reduceIte]
  refine LoopVC.intro (fun m e h' => ∃ j : Nat, m = 48 - j /\ j <= 48 /\ e 0 = .str nm /\ e 4 = .str tabT /\ e 5 = Q3 (offN j) /\ h' = h /\ ∀ i, i < j -> (nth entT i).word ≠ nm) 48 ⟨0, rfl, by omega, rfl, rfl, rfl, rfl, fun i hi => absurd hi (Nat.not_lt_zero i)⟩ ?_
  rintro m e h' ⟨j, rfl, hj, he0, he4, he5, rfl, hn⟩
  simp -dsimp -implicitDefEqProofs (disch := omega) only [VCA, Nat.reduceEqDiff, ↓reduceIte, ne_eq, he4, he5]
  by_cases hj48 : j < 48
  · have R := rowOK hj48
    have ho : offN j = (nth ZV j).1 := if_pos hj48
    rw [ho] at he5 ⊢
    generalize (nth ZV j).1 = o at *
    generalize (nth ZV j).2.1 = en at *
    generalize (nth ZV j).2.2 = k at *
    obtain ⟨a1, a2, a3, a4, a5, a6, a7, a8, a9, a10, a11, a12⟩ := R
    refine Br.dec (fun hlt => ?_) (fun hge => absurd (show (o : Int) < tabT.length by omega) hge)
    simp -dsimp -implicitDefEqProofs (disch := omega) only [VCA, Nat.reduceEqDiff, ↓reduceIte, he5]
    refine loopT (fun x e' h'' => x = .exit 2 /\ e' 0 = .str nm /\ e' 4 = .str tabT /\ e' 5 = Q3 o /\ e' 6 = Q3 en /\ h'' = h') (fun m e' h'' => ∃ i : Nat, m = en - i /\ o <= i /\ i <= en /\ e' 0 = .str nm /\ e' 4 = .str tabT /\ e' 5 = Q3 o /\ e' 6 = Q3 i /\ h'' = h') (en - o) ⟨o, rfl, by omega, by omega, he0, he4, he5, rfl, rfl⟩ ?_ ?_
    · rintro Q' hQ m e' h'' ⟨i, rfl, hi1, hi2, f0, f4, f5, f6, rfl⟩
      have eb : ((tabT.getD i 0).toNat : Int) = bt tabT i := rfl
      have b1 := a1 i hi1
      simp -dsimp -implicitDefEqProofs (disch := omega) only [↓Q0 19, VCA, Nat.reduceEqDiff, ↓reduceIte, f4, f6, eb]
      repeat' (first | ((with_reducible refine brC (fun _ => ?_) fun _ => ?_) <;> try (exfalso; omega)) | (with_reducible refine And.intro ?_ ?_; · omega) | simp -dsimp -implicitDefEqProofs (disch := omega) only [VCA, Nat.reduceEqDiff, ↓reduceIte, reduceCtorEq, f0, f4, f5, f6, eb])
      · have hne : i ≠ en := by rintro rfl; omega
        refine ⟨_, ?_, i + 1, rfl, by omega, by omega, by omega⟩
        omega
      · obtain rfl : i = en := by omega
        exact hQ _ _ _ ⟨rfl, f0, f4, f5, f6, rfl⟩
      · obtain rfl : i = en := by omega
        exact hQ _ _ _ ⟨rfl, f0, f4, f5, f6, rfl⟩
    · rintro x e' h'' ⟨rfl, f0, f4, f5, f6, rfl⟩
      simp -dsimp -implicitDefEqProofs (disch := omega) only [VCA, Nat.reduceEqDiff, ↓reduceIte, f6]
      refine loopT (fun x e1 h1 => x = .exit 4 /\ e1 0 = .str nm /\ e1 4 = .str tabT /\ e1 5 = Q3 o /\ e1 6 = Q3 en /\ e1 8 = Q3 k /\ e1 7 = Q3 (nth entT j).sign /\ h1 = h'') (fun m e1 h1 => ∃ i : Nat, m = k - i /\ en < i /\ i <= k /\ e1 0 = .str nm /\ e1 4 = .str tabT /\ e1 5 = Q3 o /\ e1 6 = Q3 en /\ e1 8 = Q3 i /\ e1 7 = Q3 (numAt tabT (en + 1) (i - en - 1)) /\ h1 = h'') _
        ⟨en + 1, rfl, by omega, by omega, f0, f4, f5, f6, congrArg Q3 (by omega), congrArg Q3 (by rw [show en + 1 - en - 1 = 0 by omega]; rfl), rfl⟩ ?_ ?_
      · rintro Q' hQ m e1 h1 ⟨i, rfl, hi1, hi2, g0, g4, g5, g6, g8, g7, rfl⟩
        have eb : ((tabT.getD i 0).toNat : Int) = bt tabT i := rfl
        have b3 := a3 i hi1
        have b12 := a12 (i - en - 1) (by omega)
        have hbb := KT tabT i
        have hw : i < k -> IntKind.u8.wrap (bt tabT i - 48) = bt tabT i - 48 := fun h => by rw [IntKind.wrap_u8]; have := b3 h; omega
        have hnx : numAt tabT (en + 1) (i + 1 - en - 1) = 10 * numAt tabT (en + 1) (i - en - 1) + (bt tabT i - 48) := by
          have : i + 1 - en - 1 = (i - en - 1) + 1 := by omega
          rw [this, numAt]
          have : en + 1 + (i - en - 1) = i := by omega
          rw [this]
        by_cases hik : i < k
        · have hw := hw hik
          have b3 := b3 hik
          simp -dsimp -implicitDefEqProofs (disch := omega) only [VCA, Nat.reduceEqDiff, ↓reduceIte, g4, g8, eb]
          repeat' (first | ((with_reducible refine brC (fun _ => ?_) fun _ => ?_) <;> try (exfalso; omega)) | (with_reducible refine And.intro ?_ ?_; · omega) | simp -dsimp -implicitDefEqProofs (disch := omega) only [VCA, Nat.reduceEqDiff, ↓reduceIte, reduceCtorEq, g0, g4, g5, g6, g8, g7, eb, hw])
          refine ⟨_, ?_, i + 1, rfl, by omega, by omega, by omega, ?_⟩
          · omega
          · rw [hnx]
        · obtain rfl : i = k := by omega
          rw [a11] at g7
          simp -dsimp -implicitDefEqProofs (disch := omega) only [VCA, Nat.reduceEqDiff, ↓reduceIte, g4, g8, eb]
          repeat' (first | ((with_reducible refine brC (fun _ => ?_) fun _ => ?_) <;> try (exfalso; omega)) | (with_reducible refine And.intro ?_ ?_; · omega) | simp -dsimp -implicitDefEqProofs (disch := omega) only [VCA])
          exact hQ _ _ _ ⟨rfl, g0, g4, g5, g6, g8, g7, rfl⟩
      · rintro x e1 h1 ⟨rfl, g0, g4, g5, g6, g8, g7, rfl⟩
        have eb : ((tabT.getD en 0).toNat : Int) = bt tabT en := rfl
        simp -dsimp -implicitDefEqProofs (disch := omega) only [VCA, Nat.reduceEqDiff, ↓reduceIte, reduceCtorEq, g0, g4, g5, g6, a9]
        refine ⟨by omega, ?_⟩
        refine Br.eq (fun h1 => ?_) (fun h1 => ?_)
        · rw [rowM_some hj48 hn h1]
          simp -dsimp -implicitDefEqProofs (disch := omega) only [VCA, Nat.reduceEqDiff, ↓reduceIte, Y8, Q7, exists_eq_right, J1, g4, g6, g7, eb, a10]
          exact ⟨by omega, Sub.refl _⟩
        · simp -dsimp -implicitDefEqProofs (disch := omega) only [VCA, Nat.reduceEqDiff, ↓reduceIte, reduceCtorEq, g0, g4, g8]
          refine ⟨_, ?_, j + 1, rfl, by omega, by omega, fun i hi => ?_⟩
          · omega
          · by_cases hij : i = j
            · subst hij; exact h1
            · exact hn i (by omega)
  · have hj' : j = 48 := by omega
    subst hj'
    have ho : offN 48 = tabT.length := if_neg (by omega)
    rw [ho]
    refine Br.dec (fun hlt => absurd hlt (by omega)) (fun hge => ?_)
    simp -dsimp -implicitDefEqProofs (disch := omega) only [VCA, Nat.reduceEqDiff, Nat.reduceSub, ↓reduceIte, exists_eq_right_right]
    rw [rowM_none hn]
    exact ⟨Sub.refl _, rfl⟩
def hitN (s : List UInt8) (x : EName) : Nat :=
  if XJ (s.drop 1) x.word = true then (if JX s (x.word.length + 1) = x.word.length + 1 /\ x.bare = false then 0 else JX s (x.word.length + 1)) else 0
def stepN (s : List UInt8) (r : List UInt8 × Nat) (x : EName) : List UInt8 × Nat := if r.2 < hitN s x then (YK x.sign, hitN s x) else r
def T5 (s : List UInt8) (l : List EName) : List UInt8 × Nat := l.foldl (stepN s) ([], 0)
theorem bestE_is (s : List UInt8) (l : List EName) : (∀ x ∈ l, hitN s x <= (T5 s l).2) /\ ((T5 s l).2 = 0 /\ (T5 s l).1 = [] \/ 0 < (T5 s l).2 /\ ∃ x ∈ l, hitN s x = (T5 s l).2 /\ (T5 s l).1 = YK x.sign) := by
  induction l using snoc_ind with
  | h0 => exact ⟨(fun x hx => by cases hx), .inl ⟨rfl, rfl⟩⟩
  | h1 l y ih =>
    have e : T5 s (l ++ [y]) = stepN s (T5 s l) y := by simp [T5]
    rw [e]
    obtain ⟨i1, i2⟩ := ih
    unfold stepN
    split
    · rename_i h
      refine ⟨fun x hx => ?_, .inr ⟨by simp; omega, y, by simp, rfl, rfl⟩⟩
      rcases List.mem_append.1 hx with hx | hx
      · have := i1 x hx; simp; omega
      · simp at hx; subst hx; simp
    · rename_i h
      refine ⟨fun x hx => ?_, ?_⟩
      · rcases List.mem_append.1 hx with hx | hx
        · exact i1 x hx
        · simp at hx; subst hx; omega
      · rcases i2 with h0 | ⟨h0, x, hx, h1, h2⟩
        · exact .inl h0
        · exact .inr ⟨h0, x, List.mem_append.2 (.inl hx), h1, h2⟩
def nmK (s : List UInt8) (k : Nat) : List UInt8 := if bt s (k - 1) = 59 then (s.take (k - 1)).drop 1 else (s.take k).drop 1
def mkK (s : List UInt8) (k : Nat) : Option EName := (entT.find? (fun x => x.word == nmK s k)).filter fun x => decide (bt s (k - 1) = 59) || x.bare
structure EOK (x : EName) : Prop where
  a1 : 1 <= x.word.length
  a2 : x.word.length <= 6
  a3 : x.word.getLastD 0 ≠ 59
  a4 : 13 < x.sign
  a5 : x.sign < 65533
theorem eOK {x : EName} (h : x ∈ entT) : EOK x := by
  have := List.all_eq_true.1 entT_ok x h
  simp only [Bool.and_eq_true, decide_eq_true_eq, bne_iff_ne] at this
  obtain ⟨⟨⟨⟨h1, h2⟩, h3⟩, h4⟩, h5⟩ := this
  exact ⟨h1, h2, h3, h4, h5⟩
theorem find_word {x : EName} (h : x ∈ entT) : entT.find? (fun y => y.word == x.word) = some x := by
  cases hf : entT.find? (fun y => y.word == x.word) with
  | none => rw [List.find?_eq_none] at hf; have := hf x h; simp at this
  | some y =>
    have hy := List.mem_of_find?_eq_some hf
    have hw : y.word = x.word := by simpa using List.find?_some hf
    have hnd := entT_nodup
    have : y = x := by
      obtain ⟨i, hi, rfl⟩ := List.getElem_of_mem hy
      obtain ⟨j, hj, rfl⟩ := List.getElem_of_mem h
      have hij : i = j := by
        have hp := List.pairwise_iff_getElem.1 hnd
        rcases Nat.lt_trichotomy i j with h | h | h
        · exact absurd (by rw [List.getElem_map, List.getElem_map]; simpa using hw) (hp i j (by simpa using hi) (by simpa using hj) h)
        · exact h
        · exact absurd (by rw [List.getElem_map, List.getElem_map]; simpa using hw.symm) (hp j i (by simpa using hj) (by simpa using hi) h)
      subst hij; rfl
    rw [this]
theorem pre_take {s w : List UInt8} (h : XJ (s.drop 1) w = true) : w.length + 1 <= s.length \/ w = [] := by
  simp only [XJ, Bool.and_eq_true, decide_eq_true_eq, List.length_drop] at h
  by_cases hw : w = []
  · exact .inr hw
  · have := List.length_pos_iff.2 hw; left; omega
theorem take_drop1 (s : List UInt8) (n : Nat) : (s.take (n + 1)).drop 1 = (s.drop 1).take n := by
  rw [List.drop_take]; simp
theorem hit_mk {s : List UInt8} {x : EName} (hx : x ∈ entT) (h : 0 < hitN s x) : mkK s (hitN s x) = some x /\ 2 <= hitN s x /\ hitN s x <= 8 /\ hitN s x <= s.length := by
  have E := eOK hx
  have a1 := E.a1
  have a2 := E.a2
  unfold hitN at h ⊢
  split at h
  case isFalse => omega
  rename_i hp
  have hl := (pre_take hp).resolve_right (by intro h; rw [h] at a1; simp at a1)
  have hw : (s.drop 1).take x.word.length = x.word := by
    simp only [XJ, Bool.and_eq_true, beq_iff_eq] at hp; exact hp.2
  split at h
  · omega
  rename_i hb
  rw [if_pos hp, if_neg hb]
  have hlast : bt s x.word.length ≠ 59 := by
    have h3 := E.a3
    intro hh
    apply h3
    have : x.word.getLastD 0 = s.getD x.word.length 0 := by
      have hne : x.word ≠ [] := by intro h; rw [h] at a1; simp at a1
      conv => lhs; rw [<- hw]
      rw [List.getLastD_eq_getLast?, List.getLast?_eq_getElem?, List.length_take, List.length_drop, Nat.min_eq_left (by omega), List.getElem?_take, if_pos (by omega), List.getElem?_drop, List.getD_eq_getElem?_getD]
      have : 1 + (x.word.length - 1) = x.word.length := by omega
      rw [this]
    rw [this]
    unfold bt at hh
    have h59 : (59 : UInt8).toNat = 59 := rfl
    exact UInt8.toNat_inj.1 (by omega)
  have hsm : JX s (x.word.length + 1) = x.word.length + 1 \/ JX s (x.word.length + 1) = x.word.length + 2 /\ x.word.length + 1 < s.length /\ bt s (x.word.length + 1) = 59 := by
    unfold JX
    split
    · rename_i h; exact .inr ⟨rfl, h.1, h.2⟩
    · exact .inl rfl
  have hfw := find_word hx
  rcases hsm with e | ⟨e, h1, h2⟩
  · rw [e]
    have hbare : x.bare = true := by
      cases hxb : x.bare with
      | true => rfl
      | false => exact absurd ⟨e, hxb⟩ hb
    refine ⟨?_, by omega, by omega, by omega⟩
    have hn : nmK s (x.word.length + 1) = x.word := by
      unfold nmK; rw [Nat.add_sub_cancel, if_neg hlast, take_drop1, hw]
    unfold mkK
    rw [hn, hfw, Option.filter, hbare]; simp
  · rw [e]
    refine ⟨?_, by omega, by omega, by omega⟩
    have hn : nmK s (x.word.length + 2) = x.word := by
      unfold nmK
      have : x.word.length + 2 - 1 = x.word.length + 1 := by omega
      rw [this, if_pos h2, take_drop1, hw]
    unfold mkK
    have : x.word.length + 2 - 1 = x.word.length + 1 := by omega
    rw [hn, hfw, Option.filter, this, h2]; simp
theorem mk_hit {s : List UInt8} {x : EName} {k : Nat} (h2 : 2 <= k) (hk : k <= s.length) (h : mkK s k = some x) : x ∈ entT /\ k <= hitN s x := by
  unfold mkK at h
  rw [Option.filter_eq_some_iff] at h
  obtain ⟨hf, hb⟩ := h
  have hx := List.mem_of_find?_eq_some hf
  have hw : x.word = nmK s k := by simpa using List.find?_some hf
  refine ⟨hx, ?_⟩
  have a1 := (eOK hx).a1
  unfold nmK at hw
  have key : ∀ n, (s.take (n + 1)).drop 1 = x.word -> n + 1 <= s.length -> XJ (s.drop 1) x.word = true /\ x.word.length = n := by
    intro n h1 h3
    have hl : x.word.length = n := by rw [<- h1, List.length_drop, List.length_take]; omega
    refine ⟨?_, hl⟩
    simp only [XJ, Bool.and_eq_true, decide_eq_true_eq, beq_iff_eq, List.length_drop]
    refine ⟨by omega, ?_⟩
    rw [hl, <- take_drop1]; exact h1
  split at hw
  · rename_i hsemi
    obtain ⟨k, rfl⟩ : ∃ m, k = m + 2 := ⟨k - 2, by omega⟩
    have e1 : k + 2 - 1 = k + 1 := by omega
    rw [e1] at hw hsemi
    obtain ⟨hp, hl⟩ := key k hw.symm (by omega)
    have hsm : JX s (x.word.length + 1) = k + 2 := by
      unfold JX; rw [hl, if_pos ⟨by omega, hsemi⟩]
    unfold hitN
    rw [if_pos hp, hsm, if_neg (by omega)]
    omega
  · rename_i hsemi
    obtain ⟨k, rfl⟩ : ∃ m, k = m + 1 := ⟨k - 1, by omega⟩
    obtain ⟨hp, hl⟩ := key k hw.symm hk
    have hbare : x.bare = true := by
      rw [Nat.add_sub_cancel] at hb hsemi
      simpa [hsemi] using hb
    unfold hitN
    rw [if_pos hp, if_neg (by rw [hbare]; simp)]
    unfold JX
    split <;> omega
def QY (s : List UInt8) : Nat -> Option (Nat × EName)
  | 0 => none
  | k + 1 => if 2 <= k + 1 /\ k + 1 <= s.length then (match mkK s (k + 1) with | some x => some (k + 1, x) | none => QY s k) else QY s k
theorem downK_is (s : List UInt8) : ∀ k, (∀ j x, QY s k = some (j, x) -> 2 <= j /\ j <= k /\ j <= s.length /\ mkK s j = some x /\ ∀ i, j < i -> i <= k -> i <= s.length -> mkK s i = none) /\ (QY s k = none -> ∀ i, 2 <= i -> i <= k -> i <= s.length -> mkK s i = none)
  | 0 => ⟨(fun j x h => by cases h), fun _ i h1 h2 => by omega⟩
  | k + 1 => by
    obtain ⟨i1, i2⟩ := downK_is s k
    unfold QY
    split
    · rename_i hc
      split
      · rename_i x hx
        refine ⟨fun j y h => ?_, fun h => by cases h⟩
        cases h
        exact ⟨hc.1, by omega, hc.2, hx, fun i h1 h2 => by omega⟩
      · rename_i hx
        refine ⟨fun j y h => ?_, fun h i h1 h2 h3 => ?_⟩
        · obtain ⟨a, b, c, d, e⟩ := i1 j y h
          refine ⟨a, by omega, c, d, fun i h1 h2 h3 => ?_⟩
          by_cases hik : i = k + 1
          · subst hik; exact hx
          · exact e i h1 (by omega) h3
        · by_cases hik : i = k + 1
          · subst hik; exact hx
          · exact i2 h i h1 (by omega) h3
    · rename_i hc
      refine ⟨fun j y h => ?_, fun h i h1 h2 h3 => ?_⟩
      · obtain ⟨a, b, c, d, e⟩ := i1 j y h
        refine ⟨a, by omega, c, d, fun i h1 h2 h3 => ?_⟩
        by_cases hik : i = k + 1
        · subst hik; omega
        · exact e i h1 (by omega) h3
      · by_cases hik : i = k + 1
        · subst hik; omega
        · exact i2 h i h1 (by omega) h3
theorem best_down (s : List UInt8) : (QY s 10 = none /\ T5 s entT = ([], 0)) \/ ∃ k x, QY s 10 = some (k, x) /\ T5 s entT = (YK x.sign, k) /\ 2 <= k /\ k <= s.length /\ x ∈ entT := by
  obtain ⟨b1, b2⟩ := bestE_is s entT
  obtain ⟨d1, d2⟩ := downK_is s 10
  rcases b2 with ⟨h1, h2⟩ | ⟨h1, x, hx, h2, h3⟩
  · left
    refine ⟨?_, Prod.ext h2 h1⟩
    cases hd : QY s 10 with
    | none => rfl
    | some p =>
      obtain ⟨j, x⟩ := p
      obtain ⟨a, b, c, d, _⟩ := d1 j x hd
      obtain ⟨hx, hh⟩ := mk_hit a c d
      have := b1 x hx
      omega
  · right
    obtain ⟨m1, m2, m3, m4⟩ := hit_mk (s := s) hx (by omega)
    rw [h2] at m1 m2 m3 m4
    refine ⟨(T5 s entT).2, x, ?_, Prod.ext h3 rfl, m2, m4, hx⟩
    cases hd : QY s 10 with
    | none => rw [d2 hd _ m2 (by omega) m4] at m1; cases m1
    | some p =>
      obtain ⟨j, y⟩ := p
      obtain ⟨a, b, c, d, e⟩ := d1 j y hd
      obtain ⟨hy, hh⟩ := mk_hit a c d
      have h4 := b1 y hy
      have : j = (T5 s entT).2 := by
        rcases Nat.lt_trichotomy j (T5 s entT).2 with h | h | h
        · rw [e _ h (by omega) m4] at m1; cases m1
        · exact h
        · omega
      subst this
      rw [m1] at d; cases d; rfl
def wordB (b : Int) : Bool := b == 61 || ldM b
def cutE (s : List UInt8) (attr : Bool) (k : Nat) : Bool := attr && decide (0 < k) && decide (bt s (k - 1) ≠ 59) && decide (k < s.length) && wordB (bt s k)
def V6 (s : List UInt8) (attr : Bool) : List UInt8 × Nat := if cutE s attr (T5 s entT).2 = true then ([], 0) else T5 s entT
theorem bestE_snoc (s : List UInt8) (k : Nat) (hk : k < entT.length) : T5 s (entT.take (k + 1)) = stepN s (T5 s (entT.take k)) (nth entT k) := by
  rw [VY hk]; simp [T5]
theorem bestE_len (s : List UInt8) (l : List EName) (hl : ∀ x ∈ l, x ∈ entT) : (T5 s l).2 <= s.length := by
  rcases (bestE_is s l).2 with ⟨h, _⟩ | ⟨h, x, hx, h2, _⟩
  · omega
  · have := (hit_mk (s := s) (hl x hx) (by omega)).2.2.2
    omega
theorem semiM_ge (s : List UInt8) (n : Nat) : n <= JX s n := by unfold JX; split <;> omega
def c112 : SFun := ⟨.seq (.reg [o 4 (.mv (.c (.str []))), o 5 (.mv (.c (.int .i64 0)))]) (.seq (.reg [o 6 (.mv (.c (.str []))), o 7 (.mv (.c (.int .i64 0)))]) (.seq (.seq (.reg [o 12 (.pcall 127 []), o 13 (.len (.t 12)), o 14 (.mv (.c (.int .i64 0)))]) (.block 0 (.loop (.seq (.reg [o 15 (.bin .lss (.t 14) (.t 13))]) (.seq (.cond (.t 15) .skip (.exit 0)) (.seq (.block 1 (.seq (.reg [o 16 (.idxA 3 (.t 12) (.t 14)), o 17 (.ld 3 true (.t 16)), o 9 (.new 160 3 [.str [], .int .i32 0, .bool false]), ⟨none, .st 3 (.t 9) (.t 17), none⟩]) (.seq (.reg [o 18 (.fldA 0 (.t 9)), o 19 (.ld 1 false (.t 18)), o 20 (.lenS (.t 19)), o 21 (.bin .add (.t 20) (.c (.int .i64 1))), o 10 (.mv (.t 21))]) (.seq (.seq (.dreg [(o 22 (.mv (.t 0)), none), (o 23 (.slS (.t 22) (some (.c (.int .i64 1))) none), none), (o 24 (.fldA 0 (.t 9)), none), (o 25 (.ld 1 false (.t 24)), none), (o 26 (.pcall 46 [.t 23, .t 25]), none), (o 27 (.un .not (.t 26)), none)]) (.cond (.t 27) (.exit 1) .skip)) (.seq (.reg [o 28 (.mv (.t 0)), o 29 (.mv (.t 10)), o 30 (.pcall 126 [.t 28, .t 29]), o 11 (.mv (.t 30))]) (.seq (.seq (.reg [o 31 (.mv (.t 11)), o 32 (.mv (.t 10)), o 33 (.bin .eql (.t 31) (.t 32)), o 34 (.mv (.t 33)), ⟨some 35, .fldA 2 (.t 9), some (34, true)⟩, ⟨some 36, .ld 1 false (.t 35), some (34, true)⟩, ⟨some 37, .un .not (.t 36), some (34, true)⟩, o 38 (.pick (.t 34) (.t 37) (.c (.bool false))), o 39 (.mv (.t 38)), ⟨some 40, .mv (.t 11), some (39, false)⟩, ⟨some 41, .mv (.t 7), some (39, false)⟩, ⟨some 42, .bin .leq (.t 40) (.t 41), some (39, false)⟩, o 43 (.pick (.t 39) (.c (.bool true)) (.t 42))]) (.cond (.t 43) (.exit 1) .skip)) (.reg [o 44 (.fldA 1 (.t 9)), o 45 (.ld 1 false (.t 44)), o 46 (.cvi .i64 (.t 45)), o 47 (.pcall 125 [.t 46]), o 48 (.mv (.t 11)), o 6 (.mv (.t 47)), o 7 (.mv (.t 48))]))))))) (.reg [o 49 (.bin .add (.t 14) (.c (.int .i64 1))), o 14 (.mv (.t 49))]))))))) (.seq (.seq (.reg [o 50 (.mv (.t 1)), o 51 (.mv (.t 50)), ⟨some 52, .mv (.t 7), some (51, true)⟩, ⟨some 53, .bin .gtr (.t 52) (.c (.int .i64 0)), some (51, true)⟩, o 54 (.pick (.t 51) (.t 53) (.c (.bool false))), o 55 (.mv (.t 54)), ⟨some 56, .mv (.t 0), some (55, true)⟩, ⟨some 57, .mv (.t 7), some (55, true)⟩, ⟨some 58, .bin .sub (.t 57) (.c (.int .i64 1)), some (55, true)⟩, ⟨some 59, .idxS (.t 56) (.t 58), some (55, true)⟩, ⟨some 60, .bin .neq (.t 59) (.c (.int .u8 59)), some (55, true)⟩, o 61 (.pick (.t 55) (.t 60) (.c (.bool false))), o 62 (.mv (.t 61)), ⟨some 63, .mv (.t 7), some (62, true)⟩, ⟨some 64, .mv (.t 0), some (62, true)⟩, ⟨some 65, .lenS (.t 64), some (62, true)⟩, ⟨some 66, .bin .lss (.t 63) (.t 65), some (62, true)⟩, o 67 (.pick (.t 62) (.t 66) (.c (.bool false))), o 68 (.mv (.t 67)), ⟨some 69, .mv (.t 0), some (68, true)⟩, ⟨some 70, .mv (.t 7), some (68, true)⟩, ⟨some 71, .idxS (.t 69) (.t 70), some (68, true)⟩, ⟨some 72, .pcall 128 [.t 71], some (68, true)⟩, o 73 (.pick (.t 68) (.t 72) (.c (.bool false)))]) (.cond (.t 73) (.seq (.reg [o 4 (.mv (.c (.str []))), o 5 (.mv (.c (.int .i64 0)))]) .ret) .skip)) (.seq (.reg [o 74 (.mv (.t 6)), o 75 (.mv (.t 7)), o 4 (.mv (.t 74)), o 5 (.mv (.t 75))]) .ret)))), [.tmp 4, .tmp 5]⟩
theorem hc112 : Y5 Tryz.prog {pure := [125, 126, 128, 46, 127]} Tryz.f112 = some c112 := by kernel_rfl
theorem entNamed_ok (s : List UInt8) (attr : Bool) (hs : s.length <= 1073741823) (h1 : 1 <= s.length) : PCalls (Pg G) 112 [.str s, .bool attr] (.tup [.str (V6 s attr).1, Q3 (V6 s attr).2]) := fun h => by
  have hE : entT.length = 48 := rfl
  refine Q1 Tryz.func112 (by kernel_rfl) hc112 (by rw [Tryz.ntmps112]; simp) (by rw [Tryz.ntmps112]; decide) ?_
  simp -dsimp -implicitDefEqProofs (disch := omega) only [VCA, c112]
  refine pcallE.of (entNames_ok) ?_; simp -dsimp -implicitDefEqProofs (disch := omega) only [VCA, ↓reduceIte]
  refine LoopVC.intro (fun m e h' => ∃ k : Nat, m = 48 - k /\ k <= 48 /\ e 0 = .str s /\ e 1 = .bool attr /\ e 12 = sl eName entT /\ e 13 = Q3 entT.length /\ e 14 = Q3 k /\ e 6 = .str (T5 s (entT.take k)).1 /\ e 7 = Q3 (T5 s (entT.take k)).2 /\ Sub h h') 48 ⟨0, rfl, by omega, rfl, rfl, rfl, rfl, rfl, rfl, rfl, Sub.refl _⟩ ?_
  rintro m e h' ⟨k, rfl, hk, he0, he1, he12, he13, he14, he6, he7, S⟩
  have hbl := bestE_len s (entT.take k) (fun x hx => List.mem_of_mem_take hx)
  by_cases hlt : k < 48
  · have hx := eOK (x := nth entT k) (W6 (by omega))
    obtain ⟨a1, a2, a3, a4, a5⟩ := hx
    have hst := bestE_snoc s k (by omega)
    obtain ⟨x, hxe⟩ : ∃ x, nth entT k = x := ⟨_, rfl⟩
    rw [hxe] at a1 a2 a3 a4 a5 hst
    generalize T5 s (entT.take k) = r at *
    have hge := semiM_ge s (x.word.length + 1)
    have hdl : (s.drop 1).length <= 1073741824 := by rw [List.length_drop]; omega
    have hP := hasPre_ok (G := G) (s.drop 1) x.word hdl (by omega)
    have hQ := semi_ok (G := G) s (x.word.length + 1) (by omega) (by omega)
    have hR := sign_ok (G := G) x.sign (by omega) (by omega)
    have e1 : ((x.word.length : Int) + 1) = ((x.word.length + 1 : Nat) : Int) := by omega
    simp -dsimp -implicitDefEqProofs (disch := omega) only [VCA, ↓reduceIte, he13, he14]
    have t1 : Int.toNat 1 = 1 := rfl
    have fin : ∀ (p : List UInt8 × Nat) {rb : Nat} (o : AObj), stepN s r x = p -> h' rb = none -> ∃ m', m' < 48 - k /\ ∃ k1 : Nat, m' = 48 - k1 /\ k1 <= 48 /\ (k : Int) + 1 = k1 /\ p.1 = (T5 s (entT.take k1)).1 /\ (p.2 : Int) = (T5 s (entT.take k1)).2 /\ Sub h (upd h' rb (some o)) :=
      fun p rb o h1 h2 => ⟨_, by omega, k + 1, rfl, by omega, by omega, by rw [hst, h1], by rw [hst, h1], S.upd (S.none h2)⟩
    refine Br.dec (fun _ => ?_) (fun hh => absurd (show (k : Int) < entT.length by omega) hh)
    simp -dsimp -implicitDefEqProofs (disch := omega) only [VCA, Nat.reduceEqDiff, Nat.reduceAdd, Nat.reduceLT, Nat.reduceLeDiff, ↓reduceIte, reduceCtorEq, Y8, Q7, Z3, exists_eq_left', J1, eName, he0, he12, he14, hxe, t1]
    refine ⟨by omega, fun rb hrb => ?_⟩
    repeat' (first | ((with_reducible refine brC (fun _ => ?_) fun _ => ?_) <;> try (exfalso; omega)) | (with_reducible apply pcallE.of; · exact hP) | (with_reducible apply pcallE.of; · exact hQ) | (with_reducible apply pcallE.of; · exact hR) | (with_reducible refine And.intro ?_ ?_; · omega) | simp -dsimp -implicitDefEqProofs (disch := omega) only [↓Q0 34, ↓Q0 39, VCA, Nat.reduceEqDiff, Nat.reduceAdd, Nat.reduceLT, Nat.reduceLeDiff, ↓reduceIte, reduceCtorEq, Y8, Q7, exists_eq_left', J1, he0, he1, he12, he13, he14, he6, he7, e1])
    · rename_i q
      have hz : hitN s x = 0 := by unfold hitN; rw [if_neg (by intro hh; rw [hh] at q; cases q)]
      exact fin r _ (if_neg (by rw [hz]; omega)) hrb
    · rename_i q q2 q3
      have hz : hitN s x = 0 := by
        unfold hitN
        split
        · rw [if_pos ⟨by omega, by simpa using q3⟩]
        · rfl
      exact fin r _ (if_neg (by rw [hz]; omega)) hrb
    all_goals (
      have hz : hitN s x = JX s (x.word.length + 1) := by
        unfold hitN
        rw [if_pos (by simpa using (by assumption : (!XJ (s.drop 1) x.word) = false)), if_neg (by
          rintro ⟨q1, q2⟩
          first
            | omega
            | (have q := (by assumption : (!x.bare) = false)
               rw [q2] at q; cases q))]
      first
        | exact fin r _ (if_neg (by rw [hz]; omega)) hrb
        | exact fin (YK x.sign, JX s (x.word.length + 1)) _ (by unfold stepN; rw [hz, if_pos (by omega)]) hrb)
  · have : k = 48 := by omega
    subst this
    have ht : entT.take 48 = entT := List.take_of_length_le (by omega)
    rw [ht] at he6 he7 hbl
    have hbe := bestE_is s entT
    unfold V6 cutE
    generalize T5 s entT = r at *
    have hb1 := KT s (r.2 - 1)
    have hb2 := KT s r.2
    have tn : ((r.2 : Int) - 1).toNat = r.2 - 1 := by omega
    have e1 : ((s.getD (r.2 - 1) 0).toNat : Int) = bt s (r.2 - 1) := rfl
    have e2 : ((s.getD r.2 0).toNat : Int) = bt s r.2 := rfl
    have hW := entWord_ok (G := G) (bt s r.2) hb2.1 hb2.2
    simp -dsimp -implicitDefEqProofs (disch := omega) only [VCA, Nat.reduceSub, ↓reduceIte, ne_eq, he13, he14]
    repeat' (first | ((with_reducible refine brC (fun _ => ?_) fun _ => ?_) <;> try (exfalso; omega)) | (with_reducible apply pcallE.of; · exact hW) | (with_reducible refine And.intro ?_ ?_; · omega) | simp -dsimp -implicitDefEqProofs (disch := omega) only [↓Q0 51, ↓Q0 55, ↓Q0 62, ↓Q0 68, VCA, Nat.reduceEqDiff, ↓reduceIte, reduceCtorEq, exists_eq_right_right, he0, he1, he6, he7, e1, e2, tn])
    all_goals (clear hbe hW; simp_all [wordB])
    all_goals first | omega | (rw [if_neg (by omega)]; exact ⟨rfl, rfl⟩)
def U4 (s : List UInt8) (attr : Bool) : List UInt8 × Nat := if s = [] \/ bt s 0 ≠ 38 then ([], 0) else if 1 < s.length /\ bt s 1 = 35 then numM s else V6 s attr
def c87 : SFun := ⟨.seq (.reg [o 4 (.mv (.c (.str []))), o 5 (.mv (.c (.int .i64 0)))]) (.seq (.block 0 (.seq (.reg [o 7 (.mv (.t 0)), o 8 (.bin .eql (.t 7) (.c (.str []))), o 9 (.mv (.t 8)), ⟨some 10, .mv (.t 0), some (9, false)⟩, ⟨some 11, .idxS (.t 10) (.c (.int .i64 0)), some (9, false)⟩, ⟨some 12, .bin .neq (.t 11) (.c (.int .u8 38)), some (9, false)⟩, o 13 (.pick (.t 9) (.c (.bool true)) (.t 12)), o 6 (.mv (.t 13))]) (.cond (.t 6) (.seq (.reg [o 4 (.mv (.c (.str []))), o 5 (.mv (.c (.int .i64 0)))]) .ret) (.seq (.reg [o 15 (.mv (.t 0)), o 16 (.lenS (.t 15)), o 17 (.bin .gtr (.t 16) (.c (.int .i64 1))), o 18 (.mv (.t 17)), ⟨some 19, .mv (.t 0), some (18, true)⟩, ⟨some 20, .idxS (.t 19) (.c (.int .i64 1)), some (18, true)⟩, ⟨some 21, .bin .eql (.t 20) (.c (.int .u8 35)), some (18, true)⟩, o 22 (.pick (.t 18) (.t 21) (.c (.bool false))), o 14 (.mv (.t 22))]) (.cond (.t 14) (.seq (.reg [o 23 (.mv (.t 0)), o 24 (.pcall 111 [.t 23]), o 25 (.ext (.t 24) 0), o 26 (.ext (.t 24) 1), o 4 (.mv (.t 25)), o 5 (.mv (.t 26))]) .ret) .skip))))) (.seq (.reg [o 27 (.mv (.t 0)), o 28 (.mv (.t 1)), o 29 (.pcall 112 [.t 27, .t 28]), o 30 (.ext (.t 29) 0), o 31 (.ext (.t 29) 1), o 4 (.mv (.t 30)), o 5 (.mv (.t 31))]) .ret)), [.tmp 4, .tmp 5]⟩
theorem hc87 : Y5 Tryz.prog {pure := [111, 112]} Tryz.f87 = some c87 := by kernel_rfl
theorem entFind_ok (s : List UInt8) (attr : Bool) (hs : s.length <= 1073741823) : PCalls (Pg G) 87 [.str s, .bool attr] (.tup [.str (U4 s attr).1, Q3 (U4 s attr).2]) := fun h => by
  have e0 : ((s.getD (Int.toNat 0) 0).toNat : Int) = bt s 0 := rfl
  have e1 : ((s.getD (Int.toNat 1) 0).toNat : Int) = bt s 1 := rfl
  by_cases h0 : s = []
  · subst h0
    have : U4 [] attr = ([], 0) := if_pos (.inl rfl)
    rw [this]
    refine Q1 Tryz.func87 (by kernel_rfl) hc87 (by rw [Tryz.ntmps87]; simp) (by rw [Tryz.ntmps87]; decide) ?_
    simp -dsimp -implicitDefEqProofs (disch := omega) only [↓Q0 9, VCA, ↓reduceIte, reduceCtorEq, c87]
    repeat' (first | ((with_reducible refine brC (fun _ => ?_) fun _ => ?_) <;> try (exfalso; omega)) | (with_reducible refine And.intro ?_ ?_; · omega) | simp -dsimp -implicitDefEqProofs (disch := omega) only [VCA, Nat.reduceEqDiff, ↓reduceIte, reduceCtorEq, exists_eq_right_right])
    · exact ⟨Sub.refl _, rfl⟩
    · exact absurd rfl (by assumption)
  · have hp : 0 < s.length := List.length_pos_iff.2 h0
    have hN := number_ok (G := G) s hs
    have hM := entNamed_ok (G := G) s attr hs (by omega)
    have hF : U4 s attr = if bt s 0 ≠ 38 then ([], 0) else if 1 < s.length /\ bt s 1 = 35 then numM s else V6 s attr := by unfold U4; simp [h0]
    have e0 : ((s.getD 0 0).toNat : Int) = bt s 0 := rfl
    refine Q1 Tryz.func87 (by kernel_rfl) hc87 (by rw [Tryz.ntmps87]; simp) (by rw [Tryz.ntmps87]; decide) ?_
    simp -dsimp -implicitDefEqProofs (disch := omega) only [↓Q0 9, VCA, ↓reduceIte, reduceCtorEq, c87]
    repeat' (first | ((with_reducible refine brC (fun _ => ?_) fun _ => ?_) <;> try (exfalso; omega)) | (with_reducible apply pcallE.of; · exact hN) | (with_reducible apply pcallE.of; · exact hM) | (with_reducible refine And.intro ?_ ?_; · omega) | simp -dsimp -implicitDefEqProofs (disch := omega) only [↓Q0 18, VCA, Nat.reduceEqDiff, Nat.reduceAdd, Nat.reduceLT, ↓reduceIte, reduceCtorEq, exists_eq_right_right, e0, e1])
    all_goals first
      | exact absurd (by assumption) h0
      | (rw [hF]
         first
           | (rw [if_pos (by omega)]; exact ⟨Sub.refl _, rfl⟩)
           | (rw [if_neg (by omega), if_pos (by omega)]; first | exact ⟨Sub.refl _, rfl⟩ | exact Sub.refl _)
           | (rw [if_neg (by omega), if_neg (by omega)]; first | exact ⟨Sub.refl _, rfl⟩ | exact Sub.refl _))
theorem runR_on {s : List UInt8} {base a : Nat} {n : Int} (h : isD s base a = true) : runR s base (s.length - a) a n = runR s base (s.length - (a + 1)) (a + 1) (min (base * n + YQ (bt s a) base) 2000000) := by
  have h' := h
  unfold isD at h'
  simp only [Bool.and_eq_true, decide_eq_true_eq] at h'
  have : s.length - a = (s.length - (a + 1)) + 1 := by omega
  rw [this, runR, if_pos h]
theorem runR_off {s : List UInt8} {base a : Nat} {n : Int} (h : isD s base a = false) : runR s base (s.length - a) a n = (n, a) := by
  cases s.length - a with
  | zero => rfl
  | succ f => rw [runR, if_neg (by rw [h]; simp)]
theorem enc_big {n : Int} (h : 1114111 < n) : Lib.encodeRune n = [239, 191, 189] := by
  unfold Lib.encodeRune; rw [Lib.encodeRuneZ_bad (.inr (.inr h))]; rfl
theorem sign_eq {n m : Int} (h : n = m \/ 1114111 < n /\ 1114111 < m) : YK n = YK m := by
  rcases h with rfl | ⟨h1, h2⟩
  · rfl
  · unfold YK
    rw [if_neg (by omega), if_neg (by omega), enc_big h1, enc_big h2]
theorem isD_hex {s : List UInt8} {base a : Nat} (hb : base = 10 \/ base = 16) (ha : a < s.length) : (isD s base a = true ↔ hexM (bt s a) < base) /\ (isD s base a = true -> YQ (bt s a) base = hexM (bt s a)) := by
  have hba := KT s a
  have := hex_dig (bt s a) hba.1 hba.2
  obtain ⟨q1, q2, q3, q4, _, _⟩ := this
  unfold isD
  simp only [Bool.and_eq_true, decide_eq_true_eq, ha, true_and]
  rcases hb with rfl | rfl
  · exact ⟨q1, q2⟩
  · exact ⟨q3, q4⟩
theorem best_short {s : List UInt8} (h : s.length < 2) : T5 s entT = ([], 0) := by
  rcases best_down s with ⟨_, h1⟩ | ⟨k, x, _, _, h2, h3, _⟩
  · exact h1
  · omega
def c38 : SFun := ⟨.seq (.reg [o 4 (.mv (.c (.str []))), o 5 (.mv (.c (.int .i64 0)))]) (.seq (.seq (.reg [o 15 (.mv (.t 0)), o 16 (.lenS (.t 15)), o 17 (.bin .lss (.t 16) (.c (.int .i64 2))), o 18 (.mv (.t 17)), ⟨some 19, .mv (.t 0), some (18, false)⟩, ⟨some 20, .idxS (.t 19) (.c (.int .i64 0)), some (18, false)⟩, ⟨some 21, .bin .neq (.t 20) (.c (.int .u8 38)), some (18, false)⟩, o 22 (.pick (.t 18) (.c (.bool true)) (.t 21))]) (.cond (.t 22) (.seq (.reg [o 4 (.mv (.c (.str []))), o 5 (.mv (.c (.int .i64 0)))]) .ret) .skip)) (.seq (.seq (.reg [o 23 (.mv (.t 0)), o 24 (.idxS (.t 23) (.c (.int .i64 1))), o 25 (.bin .eql (.t 24) (.c (.int .u8 35)))]) (.cond (.t 25) (.seq (.reg [o 6 (.mv (.c (.int .i64 10))), o 7 (.mv (.c (.int .i64 2)))]) (.seq (.seq (.reg [o 26 (.mv (.t 0)), o 27 (.lenS (.t 26)), o 28 (.bin .gtr (.t 27) (.c (.int .i64 2))), o 29 (.mv (.t 28)), ⟨some 30, .mv (.t 0), some (29, true)⟩, ⟨some 31, .idxS (.t 30) (.c (.int .i64 2)), some (29, true)⟩, ⟨some 32, .bin .eql (.t 31) (.c (.int .u8 120)), some (29, true)⟩, ⟨some 33, .mv (.t 32), some (29, true)⟩, ⟨some 34, .mv (.t 0), some (33, false)⟩, ⟨some 35, .idxS (.t 34) (.c (.int .i64 2)), some (33, false)⟩, ⟨some 36, .bin .eql (.t 35) (.c (.int .u8 88)), some (33, false)⟩, ⟨some 37, .pick (.t 33) (.c (.bool true)) (.t 36), some (29, true)⟩, o 38 (.pick (.t 29) (.t 37) (.c (.bool false)))]) (.cond (.t 38) (.reg [o 6 (.mv (.c (.int .i64 16))), o 7 (.mv (.c (.int .i64 3)))]) .skip)) (.seq (.reg [o 39 (.mv (.t 7)), o 8 (.mv (.t 39)), o 9 (.mv (.c (.int .i64 0)))]) (.seq (.block 0 (.loop (.seq (.seq (.reg [o 40 (.mv (.t 7)), o 41 (.mv (.t 0)), o 42 (.lenS (.t 41)), o 43 (.bin .lss (.t 40) (.t 42)), o 44 (.mv (.t 43)), ⟨some 45, .mv (.t 0), some (44, true)⟩, ⟨some 46, .mv (.t 7), some (44, true)⟩, ⟨some 47, .idxS (.t 45) (.t 46), some (44, true)⟩, ⟨some 48, .pcall 60 [.t 47], some (44, true)⟩, ⟨some 49, .mv (.t 6), some (44, true)⟩, ⟨some 50, .bin .lss (.t 48) (.t 49), some (44, true)⟩, o 51 (.pick (.t 44) (.t 50) (.c (.bool false)))]) (.cond (.t 51) .skip (.exit 0))) (.block 1 (.seq (.reg [o 52 (.mv (.t 6)), o 53 (.mv (.t 9)), o 54 (.bin .mul (.t 52) (.t 53)), o 55 (.mv (.t 0)), o 56 (.mv (.t 7)), o 57 (.idxS (.t 55) (.t 56)), o 58 (.pcall 60 [.t 57]), o 59 (.bin .add (.t 54) (.t 58)), o 9 (.mv (.t 59))]) (.seq (.seq (.reg [o 60 (.mv (.t 9)), o 61 (.bin .gtr (.t 60) (.c (.int .i64 2000000)))]) (.cond (.t 61) (.reg [o 9 (.mv (.c (.int .i64 2000000)))]) .skip)) (.reg [o 62 (.mv (.t 7)), o 63 (.bin .add (.t 62) (.c (.int .i64 1))), o 7 (.mv (.t 63))]))))))) (.seq (.seq (.reg [o 64 (.mv (.t 7)), o 65 (.mv (.t 8)), o 66 (.bin .eql (.t 64) (.t 65))]) (.cond (.t 66) (.seq (.reg [o 4 (.mv (.c (.str []))), o 5 (.mv (.c (.int .i64 0)))]) .ret) .skip)) (.seq (.seq (.reg [o 67 (.mv (.t 7)), o 68 (.mv (.t 0)), o 69 (.lenS (.t 68)), o 70 (.bin .lss (.t 67) (.t 69)), o 71 (.mv (.t 70)), ⟨some 72, .mv (.t 0), some (71, true)⟩, ⟨some 73, .mv (.t 7), some (71, true)⟩, ⟨some 74, .idxS (.t 72) (.t 73), some (71, true)⟩, ⟨some 75, .bin .eql (.t 74) (.c (.int .u8 59)), some (71, true)⟩, o 76 (.pick (.t 71) (.t 75) (.c (.bool false)))]) (.cond (.t 76) (.reg [o 77 (.mv (.t 7)), o 78 (.bin .add (.t 77) (.c (.int .i64 1))), o 7 (.mv (.t 78))]) .skip)) (.seq (.seq (.reg [o 79 (.mv (.t 9)), o 80 (.bin .eql (.t 79) (.c (.int .i64 0))), o 81 (.mv (.t 80)), ⟨some 82, .mv (.t 9), some (81, false)⟩, ⟨some 83, .bin .eql (.t 82) (.c (.int .i64 13)), some (81, false)⟩, o 84 (.pick (.t 81) (.c (.bool true)) (.t 83))]) (.cond (.t 84) (.reg [o 9 (.mv (.c (.int .i64 65533)))]) .skip)) (.seq (.reg [o 85 (.mv (.t 9)), o 86 (.cvi .i32 (.t 85)), o 87 (.bldF 21 1 [.t 86]), o 88 (.pcall 61 [.t 87]), o 89 (.mv (.t 7)), o 4 (.mv (.t 88)), o 5 (.mv (.t 89))]) .ret)))))))) .skip)) (.seq (.seq (.reg [o 10 (.mv (.c (.int .i64 10)))]) (.block 2 (.loop (.seq (.seq (.reg [o 90 (.mv (.t 10)), o 91 (.bin .geq (.t 90) (.c (.int .i64 2)))]) (.cond (.t 91) .skip (.exit 2))) (.seq (.block 3 (.seq (.seq (.reg [o 94 (.mv (.t 10)), o 95 (.mv (.t 0)), o 96 (.lenS (.t 95)), o 97 (.bin .gtr (.t 94) (.t 96))]) (.cond (.t 97) (.exit 3) .skip)) (.seq (.reg [o 98 (.mv (.t 0)), o 99 (.mv (.t 10)), o 100 (.slS (.t 98) (some (.c (.int .i64 1))) (some (.t 99))), o 11 (.mv (.t 100))]) (.seq (.reg [o 101 (.mv (.t 11)), o 102 (.mv (.t 11)), o 103 (.lenS (.t 102)), o 104 (.bin .sub (.t 103) (.c (.int .i64 1))), o 105 (.idxS (.t 101) (.t 104)), o 106 (.bin .eql (.t 105) (.c (.int .u8 59))), o 12 (.mv (.t 106))]) (.seq (.seq (.reg [o 107 (.mv (.t 12))]) (.cond (.t 107) (.reg [o 108 (.mv (.t 11)), o 109 (.mv (.t 11)), o 110 (.lenS (.t 109)), o 111 (.bin .sub (.t 110) (.c (.int .i64 1))), o 112 (.slS (.t 108) none (some (.t 111))), o 11 (.mv (.t 112))]) .skip)) (.seq (.reg [o 114 (.mv (.t 11)), o 115 (.pcall 62 [.t 114]), o 113 (.mv (.t 115)), o 116 (.ext (.t 113) 0), o 117 (.ext (.t 113) 1), o 13 (.mv (.t 116)), o 14 (.mv (.t 117))]) (.seq (.seq (.reg [o 118 (.mv (.t 13)), o 119 (.bin .lss (.t 118) (.c (.int .i64 0))), o 120 (.mv (.t 119)), ⟨some 121, .mv (.t 12), some (120, false)⟩, ⟨some 122, .un .not (.t 121), some (120, false)⟩, ⟨some 123, .mv (.t 122), some (120, false)⟩, ⟨some 124, .mv (.t 14), some (123, true)⟩, ⟨some 125, .un .not (.t 124), some (123, true)⟩, ⟨some 126, .pick (.t 123) (.t 125) (.c (.bool false)), some (120, false)⟩, o 127 (.pick (.t 120) (.c (.bool true)) (.t 126))]) (.cond (.t 127) (.exit 3) .skip)) (.seq (.seq (.reg [o 128 (.mv (.t 12)), o 129 (.un .not (.t 128)), o 130 (.mv (.t 129)), ⟨some 131, .mv (.t 1), some (130, true)⟩, o 132 (.pick (.t 130) (.t 131) (.c (.bool false))), o 133 (.mv (.t 132)), ⟨some 134, .mv (.t 10), some (133, true)⟩, ⟨some 135, .mv (.t 0), some (133, true)⟩, ⟨some 136, .lenS (.t 135), some (133, true)⟩, ⟨some 137, .bin .lss (.t 134) (.t 136), some (133, true)⟩, o 138 (.pick (.t 133) (.t 137) (.c (.bool false))), o 139 (.mv (.t 138)), ⟨some 140, .mv (.t 0), some (139, true)⟩, ⟨some 141, .mv (.t 10), some (139, true)⟩, ⟨some 142, .idxS (.t 140) (.t 141), some (139, true)⟩, ⟨some 143, .bin .eql (.t 142) (.c (.int .u8 61)), some (139, true)⟩, ⟨some 144, .mv (.t 143), some (139, true)⟩, ⟨some 145, .mv (.t 0), some (144, false)⟩, ⟨some 146, .mv (.t 10), some (144, false)⟩, ⟨some 147, .idxS (.t 145) (.t 146), some (144, false)⟩, ⟨some 148, .pcall 63 [.t 147], some (144, false)⟩, ⟨some 149, .pick (.t 144) (.c (.bool true)) (.t 148), some (139, true)⟩, o 150 (.pick (.t 139) (.t 149) (.c (.bool false)))]) (.cond (.t 150) (.seq (.reg [o 4 (.mv (.c (.str []))), o 5 (.mv (.c (.int .i64 0)))]) .ret) .skip)) (.seq (.reg [o 151 (.mv (.t 13)), o 152 (.cvi .i32 (.t 151)), o 153 (.bldF 21 1 [.t 152]), o 154 (.pcall 61 [.t 153]), o 155 (.mv (.t 10)), o 4 (.mv (.t 154)), o 5 (.mv (.t 155))]) .ret))))))))) (.reg [o 92 (.mv (.t 10)), o 93 (.bin .sub (.t 92) (.c (.int .i64 1))), o 10 (.mv (.t 93))])))))) (.seq (.reg [o 4 (.mv (.c (.str []))), o 5 (.mv (.c (.int .i64 0)))]) .ret)))), [.tmp 4, .tmp 5]⟩
theorem hc38 : Y5 Tryz.prog {pure := [60, 62, 63, 61]} Tryz.f38 = some c38 := by kernel_rfl
theorem hn38 : (Tryz.f38.name == "runtime.NumGoroutine") = false := by kernel_rfl
theorem refFind1_ok (s : List UInt8) (attr : Bool) (hs : s.length <= 1073741823) (hcase : s.length < 2 \/ bt s 0 ≠ 38 \/ bt s 1 = 35) : PCalls (Pg G) 38 [.str s, .bool attr] (.tup [.str (U4 s attr).1, Q3 (U4 s attr).2]) := fun h => by
  have eEnc : ∀ r : Int, -2147483648 <= r -> r <= 2147483647 -> PCalls (Pg G) 61 [.slc [[.int .i32 r]]] (.str (Lib.encodeRune r)) := fun r h1 h2 => by
    rw [<- encM_one]
    exact refEncode_ok [r] (fun x hx => by simp at hx; subst hx; exact ⟨h1, h2⟩) (by simp)
  have e0 : ((s.getD 0 0).toNat : Int) = bt s 0 := rfl
  have e1 : ((s.getD (Int.toNat 1) 0).toNat : Int) = bt s 1 := rfl
  have e2 : ((s.getD (Int.toNat 2) 0).toNat : Int) = bt s 2 := rfl
  by_cases hl2 : s.length < 2
  · have hF : U4 s attr = ([], 0) := by
      unfold U4
      split
      · rfl
      · rw [if_neg (by omega)]; unfold V6; rw [best_short hl2]
        have : cutE s attr 0 = false := by simp [cutE]
        simp [this]
    rw [hF]
    refine Q1 Tryz.func38 hn38 hc38 (by rw [Tryz.ntmps38]; simp) (by rw [Tryz.ntmps38]; decide) ?_
    simp -dsimp -implicitDefEqProofs (disch := omega) only [↓Q0 18, VCA, ↓reduceIte, reduceCtorEq, c38]
    repeat' (first | ((with_reducible refine brC (fun _ => ?_) fun _ => ?_) <;> try (exfalso; omega)) | (with_reducible refine And.intro ?_ ?_; · omega) | simp -dsimp -implicitDefEqProofs (disch := omega) only [VCA, Nat.reduceEqDiff, ↓reduceIte, exists_eq_right_right])
    all_goals first | exact ⟨Sub.refl _, rfl⟩ | exact Sub.refl _
  have hne : s ≠ [] := by rintro rfl; simp at hl2
  by_cases h38 : bt s 0 = 38
  case neg =>
    have hF : U4 s attr = ([], 0) := if_pos (.inr h38)
    rw [hF]
    refine Q1 Tryz.func38 hn38 hc38 (by rw [Tryz.ntmps38]; simp) (by rw [Tryz.ntmps38]; decide) ?_
    simp -dsimp -implicitDefEqProofs (disch := omega) only [↓Q0 18, VCA, ↓reduceIte, reduceCtorEq, c38]
    repeat' (first | ((with_reducible refine brC (fun _ => ?_) fun _ => ?_) <;> try (exfalso; omega)) | (with_reducible refine And.intro ?_ ?_; · omega) | simp -dsimp -implicitDefEqProofs (disch := omega) only [VCA, Nat.reduceEqDiff, ↓reduceIte, reduceCtorEq, exists_eq_right_right, e0])
    all_goals first | exact ⟨Sub.refl _, rfl⟩ | exact Sub.refl _
  by_cases h35 : bt s 1 = 35
  · have hF : U4 s attr = numM s := by
      unfold U4
      rw [if_neg (by rintro (h | h); exact hne h; exact h h38), if_pos ⟨by omega, h35⟩]
    rw [hF]
    obtain ⟨B, A, hB, hBA⟩ : ∃ B A : Nat, numB s = (B, A) /\ (B = 16 /\ A = 3 /\ 2 < s.length /\ (bt s 2 = 120 \/ bt s 2 = 88) \/ B = 10 /\ A = 2 /\ ¬ (2 < s.length /\ (bt s 2 = 120 \/ bt s 2 = 88))) := by
      unfold numB
      by_cases hc : 2 < s.length /\ (bt s 2 = 120 \/ bt s 2 = 88)
      · exact ⟨16, 3, if_pos hc, .inl ⟨rfl, rfl, hc⟩⟩
      · exact ⟨10, 2, if_neg hc, .inr ⟨rfl, rfl, hc⟩⟩
    have hB10 : B = 10 \/ B = 16 := by omega
    have hre := run_eq s B hB10 (s.length - A) A 0 0 (by omega) (by omega) (by omega) (by omega) (.inl rfl)
    have hM : numM s = if (runR s B (s.length - A) A 0).2 = A then ([], 0) else (YK (runR s B (s.length - A) A 0).1, JX s (runR s B (s.length - A) A 0).2) := by
      unfold numM
      simp only [hB, hre.1, sign_eq hre.2.2.2.2.2]
    rw [hM]
    refine Q1 Tryz.func38 hn38 hc38 (by rw [Tryz.ntmps38]; simp) (by rw [Tryz.ntmps38]; decide) ?_
    simp -dsimp -implicitDefEqProofs (disch := omega) only [↓Q0 18, VCA, ↓reduceIte, reduceCtorEq, c38]
    repeat' (first | ((with_reducible refine brC (fun _ => ?_) fun _ => ?_) <;> try (exfalso; omega)) | (with_reducible refine And.intro ?_ ?_; · omega) | simp -dsimp -implicitDefEqProofs (disch := omega) only [↓Q0 29, ↓Q0 33, VCA, Nat.reduceEqDiff, ↓reduceIte, reduceCtorEq, e0, e1, e2])
    all_goals (
      refine LoopVC.intro (fun m e h' => ∃ (a : Nat) (n : Int), m = s.length - a /\ A <= a /\ a <= max A s.length /\ 0 <= n /\ n <= 2000000 /\ e 0 = .str s /\ e 6 = Q3 B /\ e 7 = Q3 a /\ e 9 = Q3 n /\ e 8 = Q3 A /\ h' = h /\ runR s B (s.length - a) a n = runR s B (s.length - A) A 0) _
        ⟨A, 0, rfl, by omega, by omega, by omega, by omega, rfl, congrArg Q3 (by omega), congrArg Q3 (by omega), rfl, congrArg Q3 (by omega), rfl, rfl⟩ ?_
      rintro m e h' ⟨a, n, rfl, ha, ha2, hn0, hn1, he0, he6, he7, he9, he8, rfl, hR⟩
      have hba := KT s a
      have eba : ((s.getD a 0).toNat : Int) = bt s a := rfl
      have hH := hexOf_ok (G := G) (bt s a) hba.1 hba.2
      have hx : 0 <= (B : Int) * n /\ (B : Int) * n <= 16 * 2000000 := by
        rcases hB10 with h | h <;> (subst h; omega)
      have hhx : 0 <= hexM (bt s a) /\ hexM (bt s a) < 100 := by
        unfold hexM
        repeat' split
        all_goals omega
      have hD := isD_hex (s := s) (a := a) hB10
      have hn32 : IntKind.i32.wrap n = n := by rw [IntKind.wrap_i32]; omega
      have hw2 : IntKind.i32.wrap 65533 = 65533 := by decide
      simp -dsimp -implicitDefEqProofs (disch := omega) only [↓Q0 44, VCA, Nat.reduceEqDiff, ↓reduceIte, reduceCtorEq, he0, he7]
      repeat' (first | ((with_reducible refine brC (fun _ => ?_) fun _ => ?_) <;> try (exfalso; omega)) | (with_reducible apply pcallE.of; · exact hH) | (with_reducible apply pcallE.of; · exact eEnc _ (by omega) (by omega)) | (with_reducible refine And.intro ?_ ?_; · omega) | simp -dsimp -implicitDefEqProofs (disch := omega) only [↓Q0 71, ↓Q0 81, VCA, Nat.reduceEqDiff, ↓reduceIte, reduceCtorEq, J4, exists_eq_right_right, he0, he6, he7, he9, he8, eba, hn32, hw2])
      all_goals first
        | (have hon : isD s B a = true := (hD (by omega)).1.2 (by assumption)
           rw [runR_on hon, (hD (by omega)).2 hon] at hR
           exact ⟨_, by omega, a + 1, _, rfl, by omega, by omega, by omega, by omega, by omega, rfl, by rw [<- hR]; congr 1; omega⟩)
        | (have hoff : isD s B a = false := by
             by_cases hal : a < s.length
             · have := (hD hal).1
               cases hq : isD s B a with
               | false => rfl
               | true => exact absurd (this.1 hq) (by first | assumption | omega)
             · unfold isD; rw [decide_eq_false hal]; rfl
           rw [runR_off hoff] at hR
           rw [<- hR]
           first
             | (rw [if_pos (show a = A by omega)]; first | exact ⟨Sub.refl _, rfl⟩ | exact Sub.refl _)
             | (rw [if_neg (show ¬ a = A by omega)]
                refine ⟨Sub.refl _, ?_⟩
                show AVal.tup [_, _] = AVal.tup [.str (YK n), Q3 (JX s a)]
                unfold YK JX
                first
                  | (rw [if_pos (show n = 0 \/ n = 13 by omega), if_pos (show a < s.length /\ bt s a = 59 by omega)]; first | done | rfl)
                  | (rw [if_pos (show n = 0 \/ n = 13 by omega), if_neg (show ¬ (a < s.length /\ bt s a = 59) by omega)]; first | done | rfl)
                  | (rw [if_neg (show ¬ (n = 0 \/ n = 13) by omega), if_pos (show a < s.length /\ bt s a = 59 by omega)]; first | done | rfl)
                  | (rw [if_neg (show ¬ (n = 0 \/ n = 13) by omega), if_neg (show ¬ (a < s.length /\ bt s a = 59) by omega)]; first | done | rfl))))
  · rcases hcase with h | h | h
    · exact absurd h hl2
    · exact absurd h38 h
    · exact absurd h h35
theorem cutEn_len {s : List UInt8} {k : Nat} (h2 : 2 <= k) (hk : k <= s.length) : ((s.take k).drop 1).length = k - 1 := by
  rw [List.length_drop, List.length_take]; omega
theorem cut_last {s : List UInt8} {k : Nat} (h2 : 2 <= k) (hk : k <= s.length) : ((((s.take k).drop 1).getD (k - 2) 0).toNat : Int) = bt s (k - 1) := by
  unfold bt
  rw [List.getD_eq_getElem?_getD, List.getD_eq_getElem?_getD, List.getElem?_drop, List.getElem?_take, if_pos (by omega)]
  have : 1 + (k - 2) = k - 1 := by omega
  rw [this]
theorem cut_cut {s : List UInt8} {k : Nat} (h2 : 2 <= k) : ((s.take k).drop 1).take (k - 2) = (s.take (k - 1)).drop 1 := by
  rw [List.take_drop, List.take_take]
  have : min (1 + (k - 2)) k = k - 1 := by omega
  rw [this]
theorem row_mk (s : List UInt8) (k : Nat) : (rowM (nmK s k) = (-1, false) /\ mkK s k = none) \/ ∃ x, x ∈ entT /\ rowM (nmK s k) = (x.sign, x.bare) /\ mkK s k = if bt s (k - 1) = 59 \/ x.bare = true then some x else none := by
  unfold rowM mkK
  cases hf : entT.find? (fun x => x.word == nmK s k) with
  | none => exact .inl ⟨rfl, rfl⟩
  | some x =>
    refine .inr ⟨x, List.mem_of_find?_eq_some hf, rfl, ?_⟩
    simp [Option.filter]
theorem down_none {s : List UInt8} {k : Nat} (h : mkK s (k + 1) = none) : QY s (k + 1) = QY s k := by
  conv => lhs; unfold QY
  split
  · rw [h]
  · rfl
theorem down_some {s : List UInt8} {k : Nat} {x : EName} (h2 : 2 <= k) (hk : k <= s.length) (h : mkK s k = some x) : QY s k = some (k, x) := by
  obtain ⟨j, rfl⟩ : ∃ j, k = j + 1 := ⟨k - 1, by omega⟩
  unfold QY
  rw [if_pos ⟨h2, hk⟩, h]
theorem named_at {s : List UInt8} {attr : Bool} {k : Nat} {x : EName} (h : QY s 10 = some (k, x)) : V6 s attr = if cutE s attr k = true then ([], 0) else (Lib.encodeRune x.sign, k) := by
  rcases best_down s with ⟨h1, _⟩ | ⟨j, y, h1, h2, _, _, hy⟩
  · rw [h] at h1; cases h1
  · rw [h] at h1; cases h1
    have E := eOK hy
    have a4 := E.a4
    unfold V6
    rw [h2]
    unfold YK
    rw [if_neg (show ¬ (x.sign = 0 \/ x.sign = 13) by omega)]
theorem refFind2_ok (s : List UInt8) (attr : Bool) (hs : s.length <= 1073741823) (hl2 : ¬ s.length < 2) (h38 : bt s 0 = 38) (h35 : bt s 1 ≠ 35) : PCalls (Pg G) 38 [.str s, .bool attr] (.tup [.str (U4 s attr).1, Q3 (U4 s attr).2]) := fun h => by
  have eEnc : ∀ r : Int, -2147483648 <= r -> r <= 2147483647 -> PCalls (Pg G) 61 [.slc [[.int .i32 r]]] (.str (Lib.encodeRune r)) := fun r h1 h2 => by
    rw [<- encM_one]
    exact refEncode_ok [r] (fun x hx => by simp at hx; subst hx; exact ⟨h1, h2⟩) (by simp)
  have e0 : ((s.getD 0 0).toNat : Int) = bt s 0 := rfl
  have e1 : ((s.getD (Int.toNat 1) 0).toNat : Int) = bt s 1 := rfl
  have hne : s ≠ [] := by rintro rfl; simp at hl2
  have hF : U4 s attr = V6 s attr := by
    unfold U4
    rw [if_neg (by rintro (h | h); exact hne h; exact h h38), if_neg (fun h => h35 h.2)]
  rw [hF]
  refine Q1 Tryz.func38 hn38 hc38 (by rw [Tryz.ntmps38]; simp) (by rw [Tryz.ntmps38]; decide) ?_
  simp -dsimp -implicitDefEqProofs (disch := omega) only [↓Q0 18, VCA, ↓reduceIte, reduceCtorEq, c38]
  repeat' (first | ((with_reducible refine brC (fun _ => ?_) fun _ => ?_) <;> try (exfalso; omega)) | (with_reducible refine And.intro ?_ ?_; · omega) | simp -dsimp -implicitDefEqProofs (disch := omega) only [VCA, Nat.reduceEqDiff, ↓reduceIte, reduceCtorEq, e0, e1])
  refine LoopVC.intro (fun m e h' => ∃ k : Nat, m = k /\ 1 <= k /\ k <= 10 /\ e 0 = .str s /\ e 1 = .bool attr /\ e 10 = Q3 k /\ h' = h /\ QY s 10 = QY s k) 10 ⟨10, rfl, by omega, by omega, rfl, rfl, rfl, rfl, rfl⟩ ?_
  rintro m e h' ⟨k, rfl, hk1, hk10, he0, he1, he10, rfl, hD⟩
  by_cases hk2 : 2 <= m
  · by_cases hml : m <= s.length
    · have q1 := cutEn_len hk2 hml
      have q2 := cut_last hk2 hml
      have q3 := cut_cut (s := s) hk2
      have t1 : Int.toNat 1 = 1 := rfl
      have q4 : ((((s.take m).drop 1).length : Int) - 1).toNat = m - 2 := by rw [q1]; omega
      have hR := fun nm h => rowOf_ok (G := G) nm h
      have hb := KT s m
      have eb : ((s.getD m 0).toNat : Int) = bt s m := rfl
      have hL := ld_ok (G := G) (bt s m)
      have hrm := row_mk s m
      have next : ∀ (_ : mkK s m = none), ∃ m', m' < m /\ 1 <= m' /\ m' <= 10 /\ (m : Int) - 1 = m' /\ QY s 10 = QY s m' := fun h => by
        obtain ⟨j, rfl⟩ : ∃ j, m = j + 1 := ⟨m - 1, by omega⟩
        exact ⟨j, by omega, by omega, by omega, by omega, by rw [hD, down_none h]⟩
      have found : ∀ x, mkK s m = some x -> V6 s attr = if cutE s attr m = true then ([], 0) else (Lib.encodeRune x.sign, m) := fun x h => named_at (by rw [hD, down_some hk2 hml h])
      have hs32 : ∀ x ∈ entT, IntKind.i32.wrap x.sign = x.sign := fun x hx => by have E := eOK hx; have := E.a4; have := E.a5; rw [IntKind.wrap_i32]; omega
      have hl1 : (((s.take (m - 1)).drop 1).length) <= 1073741824 := by rw [List.length_drop, List.length_take]; omega
      have hl3 : (((s.take m).drop 1).length) <= 1073741824 := by omega
      have hR1 := hR _ hl1
      have hR2 := hR _ hl3
      have n1 : (!true) = false := rfl
      have n2 : (!false) = true := rfl
      cases hw : (bt s (m - 1) == 59) with
      | true =>
        have hw' : bt s (m - 1) = 59 := by simpa using hw
        have hnm : nmK s m = (s.take (m - 1)).drop 1 := if_pos hw'
        rw [hnm] at hrm
        rcases hrm with ⟨r1, r2⟩ | ⟨x, hx, r1, r2⟩
        · simp -dsimp -implicitDefEqProofs (disch := omega) only [VCA, ↓reduceIte, exists_eq_left', he10]
          repeat' (first | ((with_reducible refine brC (fun _ => ?_) fun _ => ?_) <;> try (exfalso; omega)) | (with_reducible apply pcallE.of; · exact hR1) | (with_reducible refine And.intro ?_ ?_; · omega) | simp -dsimp -implicitDefEqProofs (disch := omega) only [↓Q0 120, ↓Q0 123, VCA, Nat.reduceEqDiff, Nat.reduceAdd, Nat.reduceLT, ↓reduceIte, reduceCtorEq, he0, he1, he10, t1, q4, q2, q3, hw, r1])
          exact next r2
        · have E := eOK hx
          have a4 := E.a4
          have a5 := E.a5
          rw [if_pos (.inl hw')] at r2
          have hx32 := hs32 x hx
          simp -dsimp -implicitDefEqProofs (disch := omega) only [VCA, ↓reduceIte, exists_eq_left', he10]
          repeat' (first | ((with_reducible refine brC (fun _ => ?_) fun _ => ?_) <;> try (exfalso; omega)) | (with_reducible apply pcallE.of; · exact hR1) | (with_reducible apply pcallE.of; · exact eEnc _ (by omega) (by omega)) | (with_reducible refine And.intro ?_ ?_; · omega) | simp -dsimp -implicitDefEqProofs (disch := omega) only [↓Q0 120, ↓Q0 123, ↓Q0 130, ↓Q0 133, ↓Q0 139, ↓Q0 144, VCA, Nat.reduceEqDiff, Nat.reduceAdd, Nat.reduceLT, ↓reduceIte, reduceCtorEq, J4, exists_eq_right_right, he0, he10, t1, q4, q2, q3, hw, r1, n1, hx32])
          rw [found x r2, if_neg (by simp [cutE, hw'])]
          first | exact ⟨Sub.refl _, rfl⟩ | exact Sub.refl _
      | false =>
        have hw' : ¬ bt s (m - 1) = 59 := by simpa using hw
        have hnm : nmK s m = (s.take m).drop 1 := if_neg hw'
        rw [hnm] at hrm
        rcases hrm with ⟨r1, r2⟩ | ⟨x, hx, r1, r2⟩
        · simp -dsimp -implicitDefEqProofs (disch := omega) only [VCA, ↓reduceIte, exists_eq_left', he10]
          repeat' (first | ((with_reducible refine brC (fun _ => ?_) fun _ => ?_) <;> try (exfalso; omega)) | (with_reducible apply pcallE.of; · exact hR2) | (with_reducible refine And.intro ?_ ?_; · omega) | simp -dsimp -implicitDefEqProofs (disch := omega) only [↓Q0 120, ↓Q0 123, VCA, Nat.reduceEqDiff, Nat.reduceAdd, Nat.reduceLT, ↓reduceIte, reduceCtorEq, he0, he1, he10, t1, q4, q2, hw, r1])
          exact next r2
        · have E := eOK hx
          have a4 := E.a4
          have a5 := E.a5
          have hx32 := hs32 x hx
          cases hbx : x.bare with
          | false =>
            rw [if_neg (by rw [hbx]; simp [hw'])] at r2
            rw [hbx] at r1
            simp -dsimp -implicitDefEqProofs (disch := omega) only [VCA, ↓reduceIte, exists_eq_left', he10]
            repeat' (first | ((with_reducible refine brC (fun _ => ?_) fun _ => ?_) <;> try (exfalso; omega)) | (with_reducible apply pcallE.of; · exact hR2) | (with_reducible refine And.intro ?_ ?_; · omega) | simp -dsimp -implicitDefEqProofs (disch := omega) only [↓Q0 120, ↓Q0 123, VCA, Nat.reduceEqDiff, Nat.reduceAdd, Nat.reduceLT, ↓reduceIte, reduceCtorEq, he0, he1, he10, t1, q4, q2, hw, r1, n2])
            exact next r2
          | true =>
            rw [if_pos (.inr hbx)] at r2
            rw [hbx] at r1
            have hF2 := found x r2
            rw [hF2]
            cases attr with
            | false =>
              simp -dsimp -implicitDefEqProofs (disch := omega) only [VCA, ↓reduceIte, exists_eq_left', he10]
              repeat' (first | ((with_reducible refine brC (fun _ => ?_) fun _ => ?_) <;> try (exfalso; omega)) | (with_reducible apply pcallE.of; · exact hR2) | (with_reducible apply pcallE.of; · exact eEnc _ (by omega) (by omega)) | (with_reducible refine And.intro ?_ ?_; · omega) | simp -dsimp -implicitDefEqProofs (disch := omega) only [↓Q0 120, ↓Q0 123, ↓Q0 130, ↓Q0 133, ↓Q0 139, ↓Q0 144, VCA, Nat.reduceEqDiff, Nat.reduceAdd, Nat.reduceLT, ↓reduceIte, reduceCtorEq, J4, exists_eq_right_right, he0, he1, he10, t1, q4, q2, hw, r1, n1, n2, hx32])
              rw [if_neg (by simp [cutE])]
              first | exact ⟨Sub.refl _, rfl⟩ | exact Sub.refl _
            | true =>
              have hcut : cutE s true m = (decide (m < s.length) && wordB (bt s m)) := by
                have : 0 < m := by omega
                simp [cutE, this, hw']
              rw [hcut]
              simp -dsimp -implicitDefEqProofs (disch := omega) only [VCA, ↓reduceIte, exists_eq_left', he10]
              repeat' (first | ((with_reducible refine brC (fun _ => ?_) fun _ => ?_) <;> try (exfalso; omega)) | (with_reducible apply pcallE.of; · exact hR2) | (with_reducible apply pcallE.of; · exact hL) | (with_reducible apply pcallE.of; · exact eEnc _ (by omega) (by omega)) | (with_reducible refine And.intro ?_ ?_; · omega) | simp -dsimp -implicitDefEqProofs (disch := omega) only [↓Q0 120, ↓Q0 123, ↓Q0 130, ↓Q0 133, ↓Q0 139, ↓Q0 144, VCA, Nat.reduceEqDiff, Nat.reduceAdd, Nat.reduceLT, ↓reduceIte, reduceCtorEq, J4, exists_eq_right_right, he0, he1, he10, t1, q4, q2, hw, r1, n1, n2, hx32, eb])
              all_goals first
                | (have hq : (decide (m < s.length) && wordB (bt s m)) = true := by
                     rw [decide_eq_true (show m < s.length by omega)]
                     unfold wordB
                     first
                       | (rw [show ldM (bt s m) = true by assumption]; simp; done)
                       | (rw [show (bt s m == 61) = true from beq_iff_eq.2 (by omega)]; rfl)
                   rw [if_pos hq]; exact ⟨Sub.refl _, rfl⟩)
                | (have hq : (decide (m < s.length) && wordB (bt s m)) = false := by
                     by_cases hml2 : m < s.length
                     · first
                         | (exfalso; omega)
                         | (unfold wordB; rw [show ldM (bt s m) = false by assumption, show (bt s m == 61) = false from by simp; omega]; simp)
                     · rw [decide_eq_false hml2]; rfl
                   rw [if_neg (by rw [hq]; simp)]; first | exact ⟨Sub.refl _, rfl⟩ | exact Sub.refl _)
    · obtain ⟨j, rfl⟩ : ∃ j, m = j + 1 := ⟨m - 1, by omega⟩
      have hd : QY s (j + 1) = QY s j := by
        conv => lhs; unfold QY
        rw [if_neg (by omega)]
      simp -dsimp -implicitDefEqProofs (disch := omega) only [VCA, ↓reduceIte, exists_eq_left', he10]
      repeat' (first | ((with_reducible refine brC (fun _ => ?_) fun _ => ?_) <;> try (exfalso; omega)) | (with_reducible refine And.intro ?_ ?_; · omega) | simp -dsimp -implicitDefEqProofs (disch := omega) only [VCA, Nat.reduceEqDiff, ↓reduceIte, reduceCtorEq, he0, he1, he10])
      exact ⟨j, by omega, by omega, by omega, by omega, by rw [hD, hd]⟩
  · have hm1 : m = 1 := by omega
    subst hm1
    have hd : QY s 1 = none := by
      unfold QY
      rw [if_neg (fun h => absurd h.1 (by decide))]; rfl
    rw [hd] at hD
    have hN : V6 s attr = ([], 0) := by
      rcases best_down s with ⟨_, h1⟩ | ⟨k, x, h1, _⟩
      · unfold V6; rw [h1]
        have : cutE s attr 0 = false := by simp [cutE]
        simp [this]
      · rw [hD] at h1; cases h1
    rw [hN]
    simp -dsimp -implicitDefEqProofs (disch := omega) only [VCA, ↓reduceIte, exists_eq_left', he10]
    repeat' (first | ((with_reducible refine brC (fun _ => ?_) fun _ => ?_) <;> try (exfalso; omega)) | (with_reducible refine And.intro ?_ ?_; · omega) | simp -dsimp -implicitDefEqProofs (disch := omega) only [VCA, Nat.reduceEqDiff, ↓reduceIte, exists_eq_right_right])
    first | exact ⟨Sub.refl _, rfl⟩ | exact Sub.refl _
theorem refFind_ok (s : List UInt8) (attr : Bool) (hs : s.length <= 1073741823) : PCalls (Pg G) 38 [.str s, .bool attr] (.tup [.str (U4 s attr).1, Q3 (U4 s attr).2]) := by
  by_cases h1 : s.length < 2
  · exact refFind1_ok s attr hs (.inl h1)
  · by_cases h2 : bt s 0 = 38
    · by_cases h3 : bt s 1 = 35
      · exact refFind1_ok s attr hs (.inr (.inr h3))
      · exact refFind2_ok s attr hs h1 h2 h3
    · exact refFind1_ok s attr hs (.inr (.inl h2))
theorem enc_ne (r : Int) : Lib.encodeRune r ≠ [] := by
  unfold Lib.encodeRune Lib.encodeRuneZ; repeat' split
  all_goals simp
theorem findM_is (s : List UInt8) (attr : Bool) : (U4 s attr).2 <= s.length /\ ((U4 s attr).2 ≠ 0 -> (U4 s attr).1 ≠ [] /\ (U4 s attr).1.length <= 4) := by
  unfold U4
  split
  · exact ⟨by simp, fun h => absurd rfl h⟩
  · split
    · rename_i h1 h2
      unfold numM
      simp only
      have ha := runP_at s (numB s).1 (s.length - (numB s).2) (numB s).2 0
      have hb : (numB s).2 <= s.length \/ 2 < (numB s).2 := by unfold numB; split <;> simp <;> omega
      have hb2 : (numB s).2 <= s.length := by unfold numB; split <;> simp <;> omega
      split
      · exact ⟨by simp, fun h => absurd rfl h⟩
      · refine ⟨?_, fun _ => ⟨by unfold YK; exact enc_ne _, by unfold YK; exact encode_len _⟩⟩
        unfold JX
        split <;> omega
    · unfold V6
      split
      · exact ⟨by simp, fun h => absurd rfl h⟩
      · rcases best_down s with ⟨_, h⟩ | ⟨k, x, _, h, _, h2, _⟩
        · rw [h]; exact ⟨by simp, fun h => absurd rfl h⟩
        · rw [h]; exact ⟨h2, fun _ => ⟨by unfold YK; exact enc_ne _, by unfold YK; exact encode_len _⟩⟩
def nE (s : List UInt8) (attr : Bool) : Nat := if (U4 s attr).2 = 0 then 1 else (U4 s attr).2
def tE (s : List UInt8) (attr : Bool) : List UInt8 := if (U4 s attr).2 = 0 then s.take 1 else (U4 s attr).1
theorem nE_is {s : List UInt8} (attr : Bool) (h : s ≠ []) : 1 <= nE s attr /\ nE s attr <= s.length /\ tE s attr ≠ [] /\ (tE s attr).length <= 4 := by
  have hp := List.length_pos_iff.2 h
  have := findM_is s attr
  unfold nE tE
  by_cases h0 : (U4 s attr).2 = 0
  · rw [if_pos h0, if_pos h0]
    refine ⟨by omega, by omega, fun hh => ?_, by simp; omega⟩
    have := congrArg List.length hh
    rw [List.length_take, List.length_nil] at this; omega
  · rw [if_neg h0, if_neg h0]
    exact ⟨by omega, this.1, (this.2 h0).1, (this.2 h0).2⟩
def K4 (s : List UInt8) (attr : Bool) : List UInt8 := if h : s = [] then [] else tE s attr ++ K4 (s.drop (nE s attr)) attr
termination_by s.length
decreasing_by
  have := nE_is attr h
  rw [List.length_drop]; omega
theorem XY (attr : Bool) : K4 [] attr = [] := by unfold K4; rfl
theorem WX {s : List UInt8} {attr : Bool} (h : s ≠ []) : K4 s attr = tE s attr ++ K4 (s.drop (nE s attr)) attr := by
  rw [K4]; rw [dif_neg h]
def c71 : SFun := ⟨.seq (.reg [o 4 (.mv (.c (.str [])))]) (.seq (.reg [o 5 (.new 61 2 [.prim (Value.pointer none), .emp])]) (.seq (.block 0 (.loop (.seq (.seq (.reg [o 8 (.mv (.t 0)), o 9 (.bin .neq (.t 8) (.c (.str [])))]) (.cond (.t 9) .skip (.exit 0))) (.block 1 (.seq (.reg [o 11 (.mv (.t 0)), o 12 (.mv (.t 1)), o 13 (.pcall 87 [.t 11, .t 12]), o 10 (.mv (.t 13)), o 14 (.ext (.t 10) 0), o 15 (.ext (.t 10) 1), o 6 (.mv (.t 14)), o 7 (.mv (.t 15))]) (.seq (.seq (.reg [o 16 (.mv (.t 7)), o 17 (.bin .eql (.t 16) (.c (.int .i64 0)))]) (.cond (.t 17) (.reg [o 18 (.mv (.t 0)), o 19 (.slS (.t 18) none (some (.c (.int .i64 1)))), o 6 (.mv (.t 19)), o 7 (.mv (.c (.int .i64 1)))]) .skip)) (.seq (.reg [o 20 (.mv (.t 6)), o 21 (.call (.c (.fn 25 [] [])) [.t 5, .t 20])]) (.reg [o 22 (.mv (.t 0)), o 23 (.mv (.t 7)), o 24 (.slS (.t 22) (some (.t 23)) none), o 0 (.mv (.t 24))])))))))) (.seq (.reg [o 25 (.call (.c (.fn 28 [] [])) [.t 5]), o 4 (.mv (.t 25))]) .ret))), [.tmp 4]⟩
theorem hc71 : Y5 Tryz.prog {pure := [87]} Tryz.f71 = some c71 := by kernel_rfl
theorem read_ok (s : List UInt8) (attr : Bool) (hs : s.length <= 1073741823) : PCalls (Pg G) 71 [.str s, .bool attr] (.str (K4 s attr)) := fun h => by
  refine Q1 Tryz.func71 (by kernel_rfl) hc71 (by rw [Tryz.ntmps71]; simp) (by rw [Tryz.ntmps71]; decide) ?_
  simp -dsimp -implicitDefEqProofs (disch := omega) only [VCA, c71]
  intro rb hrb
  refine LoopVC.intro (fun m e h' => ∃ t d : List UInt8, m = t.length /\ d.length + 4 * t.length <= 4 * s.length /\ e 0 = .str t /\ e 1 = .bool attr /\ e 5 = .vp rb 0 /\ Bl h rb d h' /\ d ++ K4 t attr = K4 s attr) s.length ⟨s, [], rfl, by simp, rfl, rfl, rfl, Bl.new h rb hrb, rfl⟩ ?_
  rintro m e h' ⟨t, d, rfl, hdl, he0, he1, he5, B, hR⟩
  by_cases ht : t = []
  · subst ht
    rw [XY, List.append_nil] at hR
    simp -dsimp -implicitDefEqProofs (disch := omega) only [VCA, ↓reduceIte, he0]
    refine Br.ne (fun hh => absurd rfl hh) (fun _ => ?_)
    simp -dsimp -implicitDefEqProofs (disch := omega) only [VCA, Nat.reduceEqDiff, ↓reduceIte, he5]
    refine DCalls.of (string_ok B (by omega)) ?_
    rintro a h2 ⟨rfl, S⟩
    rw [hR]
    simp -dsimp -implicitDefEqProofs (disch := omega) only [VCA, ↓reduceIte, exists_eq_right]
    exact S
  · have hF := entFind_ok (G := G) t attr (by omega)
    have hn := nE_is attr ht
    have hp := List.length_pos_iff.2 ht
    rw [WX ht] at hR
    have hfi := findM_is t attr
    have go : ∀ h3, Bl h rb (d ++ tE t attr) h3 -> ∃ m', m' < t.length /\ ∃ (t1 d1 : List UInt8), m' = t1.length /\ d1.length + 4 * t1.length <= 4 * s.length /\ t.drop (nE t attr) = t1 /\ Bl h rb d1 h3 /\ d1 ++ K4 t1 attr = K4 s attr := fun h3 B3 =>
      ⟨_, by rw [List.length_drop]; omega, t.drop (nE t attr), d ++ tE t attr, rfl, by rw [List.length_append, List.length_drop]; omega, rfl, B3, by rw [List.append_assoc]; exact hR⟩
    have hwr := writeString_ok (G := G) (tE t attr) B (by omega)
    simp -dsimp -implicitDefEqProofs (disch := omega) only [VCA, ↓reduceIte, he0]
    refine Br.ne (fun _ => ?_) (fun hh => absurd hh ht)
    simp -dsimp -implicitDefEqProofs (disch := omega) only [VCA, Nat.reduceEqDiff, ↓reduceIte, reduceCtorEq, he0, he1]
    refine pcallE.of (hF) ?_; simp -dsimp -implicitDefEqProofs (disch := omega) only [VCA, Nat.reduceEqDiff, Nat.reduceAdd, Nat.reduceLT, ↓reduceIte]
    have t1 : Int.toNat 1 = 1 := rfl
    refine Br.eq (fun hz => ?_) (fun hz => ?_)
    · have e1 : tE t attr = t.take 1 := if_pos (by omega)
      have e2 : nE t attr = 1 := if_pos (by omega)
      rw [e1] at hwr go
      rw [e2] at go
      simp -dsimp -implicitDefEqProofs (disch := omega) only [VCA, Nat.reduceEqDiff, ↓reduceIte, reduceCtorEq, he0, he5, t1]
      refine ⟨by omega, ?_⟩
      refine DCalls.of hwr ?_
      rintro a h2 ⟨rfl, B'⟩
      simp -dsimp -implicitDefEqProofs (disch := omega) only [VCA, Nat.reduceEqDiff, ↓reduceIte, reduceCtorEq, he0, he1, he5, t1]
      exact ⟨by omega, go h2 B'⟩
    · have e1 : tE t attr = (U4 t attr).1 := if_neg (by omega)
      have e2 : nE t attr = (U4 t attr).2 := if_neg (by omega)
      rw [e1] at hwr go
      rw [e2] at go
      simp -dsimp -implicitDefEqProofs (disch := omega) only [VCA, Nat.reduceEqDiff, ↓reduceIte, he5]
      refine DCalls.of hwr ?_
      rintro a h2 ⟨rfl, B'⟩
      simp -dsimp -implicitDefEqProofs (disch := omega) only [VCA, Nat.reduceEqDiff, ↓reduceIte, reduceCtorEq, he0, he1, he5]
      exact ⟨by omega, go h2 B'⟩
def c55 : SFun := ⟨.seq (.reg [o 2 (.mv (.c (.str [])))]) (.seq (.reg [o 3 (.mv (.t 0)), o 4 (.pcall 71 [.t 3, .c (.bool false)]), o 2 (.mv (.t 4))]) .ret), [.tmp 2]⟩
theorem hc55 : Y5 Tryz.prog {pure := [71]} Tryz.f55 = some c55 := by kernel_rfl
theorem text_ok (s : List UInt8) (hs : s.length <= 1073741823) : PCalls (Pg G) 55 [.str s] (.str (K4 s false)) := fun h => by
  refine Q1 Tryz.func55 (by kernel_rfl) hc55 (by rw [Tryz.ntmps55]; simp) (by rw [Tryz.ntmps55]; decide) ?_
  simp -dsimp -implicitDefEqProofs (disch := omega) only [VCA, ↓reduceIte, reduceCtorEq, c55]
  refine pcallE.of (read_ok s false hs) ?_; simp -dsimp -implicitDefEqProofs (disch := omega) only [VCA, ↓reduceIte, exists_eq_right]
  exact Sub.refl _
def firstF (q : Nat -> Bool) : Nat -> Nat -> Nat
  | 0, a => a
  | f + 1, a => if q a = true then a else firstF q f (a + 1)
def Y0 (q : Nat -> Bool) (n a : Nat) : Nat := firstF q (n - a) a
theorem W4 {q : Nat -> Bool} {n a : Nat} (h : a < n) (hq : q a = false) : Y0 q n a = Y0 q n (a + 1) := by
  unfold Y0
  obtain ⟨f, hf⟩ : ∃ f, n - a = f + 1 := ⟨n - a - 1, by omega⟩
  rw [hf, show n - (a + 1) = f by omega, firstF, hq, if_neg (by simp)]
theorem Y9 {q : Nat -> Bool} {n a : Nat} (hq : q a = true) (h : a < n) : Y0 q n a = a := by
  unfold Y0
  obtain ⟨f, hf⟩ : ∃ f, n - a = f + 1 := ⟨n - a - 1, by omega⟩
  rw [hf, firstF, hq, if_pos rfl]
theorem U5 {q : Nat -> Bool} {n a : Nat} (h : n <= a) : Y0 q n a = a := by
  unfold Y0
  rw [show n - a = 0 by omega]; rfl
structure FirstIs (q : Nat -> Bool) (n a k : Nat) : Prop where
  ge : a <= k
  le : k <= n
  hit : k < n -> q k = true
  no : ∀ j, a <= j -> j < k -> q j = false
theorem first_is {q : Nat -> Bool} {n : Nat} : ∀ m a, n - a = m -> a <= n -> FirstIs q n a (Y0 q n a)
  | 0, a, hm, h => by
    obtain rfl : a = n := by omega
    rw [U5 (Nat.le_refl _)]
    exact ⟨Nat.le_refl _, Nat.le_refl _, fun h => absurd h (Nat.lt_irrefl _), fun j h1 h2 => by omega⟩
  | m + 1, a, hm, h => by
    cases hq : q a with
    | true =>
      rw [Y9 hq (by omega)]
      exact ⟨Nat.le_refl _, h, fun _ => hq, fun j h1 h2 => by omega⟩
    | false =>
      rw [W4 (by omega) hq]
      obtain ⟨h1, h2, h3, h4⟩ := first_is (q := q) (n := n) m (a + 1) (by omega) (by omega)
      refine ⟨by omega, h2, h3, fun j g1 g2 => ?_⟩
      by_cases e : j = a
      · rw [e]; exact hq
      · exact h4 j (by omega) g2
theorem WQ {q : Nat -> Bool} {n a : Nat} (h : a <= n) : FirstIs q n a (Y0 q n a) := first_is _ a rfl h
theorem FirstIs.eq {q : Nat -> Bool} {n a k : Nat} (h : FirstIs q n a k) : Y0 q n a = k := by
  have g := WQ (q := q) (n := n) (a := a) (Nat.le_trans h.ge h.le)
  rcases Nat.lt_trichotomy (Y0 q n a) k with hl | he | hl
  · have h1 := h.no _ g.ge hl
    rw [g.hit (Nat.lt_of_lt_of_le hl h.le)] at h1; cases h1
  · exact he
  · have h1 := g.no _ h.ge hl
    rw [h.hit (Nat.lt_of_lt_of_le hl g.le)] at h1; cases h1
theorem first_congr {q q' : Nat -> Bool} {n a : Nat} (h : a <= n) (hq : ∀ j, a <= j -> j < n -> q j = q' j) : Y0 q n a = Y0 q' n a := by
  have g := WQ (q := q') h
  exact FirstIs.eq ⟨g.ge, g.le, fun hl => (hq _ g.ge hl).trans (g.hit hl), fun j h1 h2 => (hq j h1 (Nat.lt_of_lt_of_le h2 g.le)).trans (g.no j h1 h2)⟩
def seg (s : List UInt8) (a b : Nat) : List UInt8 := (s.take b).drop a
theorem TK {s : List UInt8} {a b : Nat} (hb : b <= s.length) : (seg s a b).length = b - a := by
  unfold seg; rw [List.length_drop, List.length_take]; omega
theorem YY (s : List UInt8) (a b : Nat) : (seg s a b).length <= s.length := by
  unfold seg; rw [List.length_drop, List.length_take]; omega
theorem bt_seg {s : List UInt8} {a b i : Nat} (h : a + i < b) : bt (seg s a b) i = bt s (a + i) := by
  unfold bt seg
  rw [List.getD_eq_getElem?_getD, List.getD_eq_getElem?_getD, List.getElem?_drop, List.getElem?_take, if_pos h]
def Z4 (p : Int -> Bool) (s : List UInt8) (a : Nat) : Nat := Y0 (fun i => p (bt s i)) s.length a
def U6 (b : Int) : Bool := b == 32 || (b == 9 || (b == 10 || (b == 12 || b == 13)))
def U1 (b : Int) : Bool := (decide (97 <= b) && decide (b <= 122)) || (decide (65 <= b) && decide (b <= 90))
def ZW (b : Int) : Int := if 65 <= b /\ b <= 90 then b + 32 else b
def Z0 (b : Int) : Bool := !U6 b
def Z9 (b : Int) : Bool := U6 b || (b == 47 || b == 62)
def X3 (b : Int) : Bool := !U6 b && b != 47
def Y2 (b : Int) : Bool := U6 b || (b == 47 || (b == 62 || b == 61))
def X0 (b : Int) : Bool := U6 b || b == 62
def nmI (b : Int) : Int := if 65 <= b /\ b <= 90 then b + 32 else if (97 <= b /\ b <= 122) \/ (48 <= b /\ b <= 57) \/ b = 45 \/ b = 95 \/ b = 58 then b else 95
def nmB (b : UInt8) : UInt8 := UInt8.ofNat (nmI b.toNat).toNat
def K3 (s : List UInt8) : List UInt8 := (s.take 40).map nmB
def K8 (s : List UInt8) : List UInt8 :=
  if K3 s ≠ [] /\ U1 (bt (K3 s) 0) = false /\ bt (K3 s) 0 ≠ 45 then 95 :: (K3 s).drop 1 else K3 s
def X2 (nm : List UInt8) : Int := if nm = [115, 99, 114, 105, 112, 116] \/ nm = [115, 116, 121, 108, 101] then 1 else if nm = [116, 101, 120, 116, 97, 114, 101, 97] \/ nm = [116, 105, 116, 108, 101] then 2 else 0
def atE (s : List UInt8) (a : Nat) : Nat := Z4 Y2 s (a + 1)
def atB (s : List UInt8) (a : Nat) : Nat := Z4 Z0 s (atE s a)
def TJ (s : List UInt8) (b : Nat) : Bool := decide (b < s.length) && bt s b == 61
def JQ (s : List UInt8) (c : Nat) : Bool := decide (c < s.length) && (bt s c == 34 || bt s c == 39)
def valT (s : List UInt8) (c : Nat) : Nat × Nat × Nat :=
  if JQ s c = true then
    (c + 1, Y0 (fun i => bt s i == bt s c) s.length (c + 1), if Y0 (fun i => bt s i == bt s c) s.length (c + 1) < s.length then Y0 (fun i => bt s i == bt s c) s.length (c + 1) + 1 else s.length)
  else (c, Z4 X0 s c, Z4 X0 s c)
def ZK (s : List UInt8) (a : Nat) : HAttr × Nat :=
  if TJ s (atB s a) = true then
    (⟨K8 (seg s a (atE s a)), K4 (seg s (valT s (Z4 Z0 s (atB s a + 1))).1 (valT s (Z4 Z0 s (atB s a + 1))).2.1) true⟩, (valT s (Z4 Z0 s (atB s a + 1))).2.2)
  else (⟨K8 (seg s a (atE s a)), []⟩, atB s a)
def addA (l : List HAttr) (x : HAttr) : List HAttr := if l.any (fun y => y.name == x.name) = true then l else l ++ [x]
def WV (s : List UInt8) : Nat -> Nat -> List HAttr -> Option (List HAttr × Bool × Nat)
  | 0, _, _ => none
  | f + 1, a, l =>
    if Z4 X3 s a < s.length then
      if bt s (Z4 X3 s a) = 62 then some (l, decide (a < Z4 X3 s a) && bt s (Z4 X3 s a - 1) == 47, Z4 X3 s a + 1)
      else WV s f (ZK s (Z4 X3 s a)).2 (addA l (ZK s (Z4 X3 s a)).1)
    else none
structure HTok where
  kind : Int
  name : List UInt8
  attrs : List HAttr
  text : List UInt8
  self : Bool
  frm : Int
  til : Int
deriving DecidableEq, Inhabited
def J6 (t : HTok) : List AVal := [Q3 t.kind, .str t.name, sl Z6 t.attrs, .str t.text, .bool t.self, Q3 t.frm, Q3 t.til]
instance : LenE J6 7 := ⟨fun _ => rfl⟩
def tok0 : HTok := ⟨0, [], [], [], false, 0, 0⟩
def Y1 (s : List UInt8) (a : Nat) : Int :=
  if bt s a ≠ 60 \/ ¬ a + 1 < s.length then 0
  else if U1 (bt s (a + 1)) = true then 97
  else if bt s (a + 1) = 33 \/ bt s (a + 1) = 63 then bt s (a + 1)
  else if bt s (a + 1) = 47 /\ a + 2 < s.length then 47 else 0
def Z7 (s : List UInt8) (a : Nat) (w : List UInt8) : Bool := decide (a + w.length <= s.length) && (List.range w.length).all fun i => ZW (bt s (a + i)) == bt w i
def upM (s : List UInt8) (a : Nat) (w : List UInt8) : Nat := Y0 (fun i => Z7 s i w) s.length a
def UQ (s : List UInt8) (a : Nat) (w : List UInt8) : HTok × Bool × Nat :=
  (⟨4, [], [], seg s a (upM s a w), false, 0, 0⟩, decide (upM s a w < s.length), if upM s a w < s.length then upM s a w + w.length else s.length)
def ZU (s : List UInt8) (a : Nat) : HTok × Bool × Nat :=
  if Z7 s a [60, 33, 45, 45] = true then
    if Z7 s (a + 4) [62] = true then (⟨4, [], [], [], false, 0, 0⟩, true, a + 5)
    else if Z7 s (a + 4) [45, 62] = true then (⟨4, [], [], [], false, 0, 0⟩, true, a + 6)
    else UQ s (a + 4) [45, 45, 62]
  else if Z7 s a [60, 33, 100, 111, 99, 116, 121, 112, 101] = true then
    (⟨5, K3 (seg s (Y0 (fun i => Z0 (bt s i)) (upM s a [62]) (a + 9)) (Y0 (fun i => U6 (bt s i)) (upM s a [62]) (Y0 (fun i => Z0 (bt s i)) (upM s a [62]) (a + 9)))), [], [], false, 0, 0⟩,
      decide (upM s a [62] < s.length), if upM s a [62] < s.length then upM s a [62] + 1 else s.length)
  else UQ s (a + 2) [62]
def UU (s : List UInt8) (a : Nat) : Option (List UInt8 × List HAttr × Bool × Nat) :=
  (WV s (s.length + 1) (Z4 Z9 s a) []).map fun q => (K3 (seg s a (Z4 Z9 s a)), q.1, q.2.1, q.2.2)
def X5 (s : List UInt8) (a : Nat) : Option (HTok × Bool × Nat) :=
  if Y1 s a = 97 then (UU s (a + 1)).map fun q => (⟨1, q.1, q.2.1, [], q.2.2.1, 0, 0⟩, true, q.2.2.2)
  else if Y1 s a = 33 then some (ZU s a)
  else if Y1 s a = 63 then some (UQ s (a + 1) [62])
  else if bt s (a + 2) = 62 then some (tok0, true, a + 3)
  else if U1 (bt s (a + 2)) = true then (UU s (a + 2)).map fun q => (⟨2, q.1, [], [], false, 0, 0⟩, true, q.2.2.2)
  else some (UQ s (a + 2) [62])
def X8 (s : List UInt8) (a : Nat) (nm : List UInt8) : Bool := decide (a + 2 + nm.length < s.length) && (Z7 s a (60 :: 47 :: nm) && Z9 (bt s (a + 2 + nm.length)))
def Z8 (s : List UInt8) (a : Nat) (rw : List UInt8) : Nat := if rw = [] then Y0 (fun i => Y1 s i != 0) s.length a else Y0 (fun i => X8 s i rw) s.length a
def Y7 (s : List UInt8) (a : Nat) (rw : List UInt8) : List HTok :=
  if a < Z8 s a rw then [⟨3, [], [], if X2 rw = 1 then seg s a (Z8 s a rw) else K4 (seg s a (Z8 s a rw)) false, false, a, Z8 s a rw⟩] else []
def W7 (t : HTok) : List UInt8 := if t.kind = 1 /\ 0 < X2 t.name then t.name else []
def putT (t : HTok) (a b : Nat) : List HTok := if t.kind = 0 then [] else [{ t with frm := a, til := b }]
def V5 (s : List UInt8) : Nat -> Nat -> List HTok -> Nat -> List HTok × Nat
  | 0, _, out, safe => (out, safe)
  | f + 1, a, out, safe =>
    if a < s.length then
      match X5 s a with
      | none => (out, safe)
      | some (t, en, b) => V5 s f (Z8 s b (W7 t)) (out ++ (putT t a b ++ Y7 s b (W7 t))) (if en = true /\ t.kind ≠ 0 then b else safe)
    else (out, safe)
def T7 (s : List UInt8) : List HTok × Nat := V5 s (s.length + 1) (Z8 s 0 []) (Y7 s 0 []) 0
def eStr (s : List UInt8) : List AVal := [.str s]
instance : LenE eStr 1 := ⟨fun _ => rfl⟩
def U8 (G : JU) : Prop := ∃ m, G 0 = .pin [Q3 m]
theorem contains_ok (hG : U8 G) (s t : List UInt8) (hs : s.length < 4294967281) : PCalls (Pg G) 47 [.str s, .str t] (.bool (Lib.contains s t)) := by
  obtain ⟨m, hG⟩ := hG
  refine PCalls.ofRun ⟨_, Tryz.func47, by kernel_rfl, by kernel_rfl⟩ fun g w vs GR V => ?_
  obtain ⟨u, v, rfl, hu, hv⟩ := V.two_inv
  rw [hu.str_inv', hv.str_inv']
  exact (Tryz.strings_Contains ⟨⟨s⟩⟩ ⟨⟨t⟩⟩ m w hs (GR.int hG)).mono fun e w' ⟨he, hw⟩ => ⟨_, he, hw, .bool _⟩
theorem TZ (c : UInt8) (l : List UInt8) (i : Nat) : bt (c :: l) (i + 1) = bt l i := by unfold bt; rfl
theorem bt_drop (s : List UInt8) (a i : Nat) : bt (s.drop a) i = bt s (a + i) := by
  unfold bt; rw [List.getD_eq_getElem?_getD, List.getD_eq_getElem?_getD, List.getElem?_drop]
theorem VV {a b : UInt8} (h : (a.toNat : Int) = b.toNat) : a = b := UInt8.toNat_inj.1 (by omega)
theorem pre_iff : ∀ (w l : List UInt8), w.isPrefixOf l = true ↔ w.length <= l.length /\ ∀ j, j < w.length -> bt l j = bt w j
  | [], l => by simp
  | c :: w, [] => by simp
  | c :: w, b :: l => by
    rw [List.isPrefixOf, Bool.and_eq_true, beq_iff_eq, pre_iff w l]
    simp only [List.length_cons]
    constructor
    · rintro ⟨rfl, h1, h2⟩
      refine ⟨by omega, fun j hj => ?_⟩
      cases j with
      | zero => rfl
      | succ j => rw [TZ, TZ]; exact h2 j (by omega)
    · rintro ⟨h1, h2⟩
      refine ⟨(VV (h2 0 (by omega))).symm, by omega, fun j hj => ?_⟩
      have := h2 (j + 1) (by omega)
      rwa [TZ, TZ] at this
def noLet (w : List UInt8) : Bool := w.all fun b => !U1 b.toNat
theorem noLet_at {w : List UInt8} (h : noLet w = true) {j : Nat} (hj : j < w.length) : U1 (bt w j) = false := by
  have h1 := List.all_eq_true.1 h (nth w j) (W6 hj)
  have h2 : bt w j = ((nth w j).toNat : Int) := rfl
  rw [h2]; simpa using h1
theorem VZ {b c : Int} (h : U1 c = false) : (ZW b == c) = (b == c) := by
  unfold U1 at h
  simp only [Bool.or_eq_false_iff, Bool.and_eq_false_iff, decide_eq_false_iff_not] at h
  rw [Bool.eq_iff_iff, beq_iff_eq, beq_iff_eq]
  unfold ZW
  split <;> omega
theorem stand_iff {s w : List UInt8} {a : Nat} : Z7 s a w = true ↔ a + w.length <= s.length /\ ∀ j, j < w.length -> ZW (bt s (a + j)) = bt w j := by
  unfold Z7
  rw [Bool.and_eq_true, decide_eq_true_iff, List.all_eq_true]
  refine and_congr_right fun _ => ⟨fun h j hj => ?_, fun h j hj => ?_⟩
  · simpa using h j (List.mem_range.2 hj)
  · simpa using h j (List.mem_range.1 hj)
theorem occ_stand {s w : List UInt8} (hw : noLet w = true) (h0 : w ≠ []) (a i : Nat) : Lib.occAt (s.drop a) w i = Z7 s (a + i) w := by
  have hp : 0 < w.length := List.length_pos_iff.2 h0
  rw [Bool.eq_iff_iff, stand_iff]
  unfold Lib.occAt
  rw [pre_iff, List.drop_drop, List.length_drop]
  constructor
  · rintro ⟨h1, h2⟩
    refine ⟨by omega, fun j hj => ?_⟩
    have := h2 j hj
    rw [bt_drop] at this
    have e := VZ (b := bt s (a + i + j)) (noLet_at hw hj)
    rw [Bool.eq_iff_iff, beq_iff_eq, beq_iff_eq] at e
    exact e.2 this
  · rintro ⟨h1, h2⟩
    refine ⟨by omega, fun j hj => ?_⟩
    rw [bt_drop]
    have e := VZ (b := bt s (a + i + j)) (noLet_at hw hj)
    rw [Bool.eq_iff_iff, beq_iff_eq, beq_iff_eq] at e
    exact e.1 (h2 j hj)
theorem index_up {s w : List UInt8} (hw : noLet w = true) (h0 : w ≠ []) {a : Nat} (ha : a <= s.length) :
    (upM s a w < s.length -> Lib.index (s.drop a) w = ((upM s a w - a : Nat) : Int)) /\ (¬ upM s a w < s.length -> Lib.index (s.drop a) w = -1) := by
  have F := WQ (q := fun i => Z7 s i w) (n := s.length) (a := a) ha
  have hp : 0 < w.length := List.length_pos_iff.2 h0
  have hge := F.ge
  have hle := F.le
  have hhit := F.hit
  have hno := F.no
  change a <= upM s a w at hge
  change upM s a w <= s.length at hle
  change upM s a w < s.length -> Z7 s (upM s a w) w = true at hhit
  change ∀ j, a <= j -> j < upM s a w -> Z7 s j w = false at hno
  refine ⟨fun hl => Lib.index_first (by rw [List.length_drop]; omega) ?_ fun j hj => ?_, fun hl => Lib.index_none fun j hj => ?_⟩
  · rw [occ_stand hw h0, show a + (upM s a w - a) = upM s a w by omega]; exact hhit hl
  · rw [occ_stand hw h0]; exact hno _ (by omega) (by omega)
  · rw [occ_stand hw h0]
    rw [List.length_drop] at hj
    by_cases e : a + j < upM s a w
    · exact hno _ (by omega) e
    · cases hq : Z7 s (a + j) w with
      | false => rfl
      | true => have := (stand_iff.1 hq).1; omega
theorem seg_end {s : List UInt8} {a b : Nat} (h : s.length <= b) : seg s a b = s.drop a := by unfold seg; rw [List.take_of_length_le h]
theorem drop_take_seg (s : List UInt8) (a k : Nat) : (s.drop a).take k = seg s a (a + k) := by
  unfold seg; rw [List.drop_take]; congr 1; omega
theorem cut_up {s w : List UInt8} (hw : noLet w = true) (h0 : w ≠ []) {a : Nat} (ha : a <= s.length) :
    Lib.cut (s.drop a) w = (seg s a (upM s a w), s.drop (upM s a w + w.length), decide (upM s a w < s.length)) := by
  have F := WQ (q := fun i => Z7 s i w) (n := s.length) (a := a) ha
  have hge := F.ge
  change a <= upM s a w at hge
  have hle := F.le
  change upM s a w <= s.length at hle
  obtain ⟨h1, h2⟩ := index_up hw h0 ha
  unfold Lib.cut
  by_cases hl : upM s a w < s.length
  · rw [h1 hl, if_pos (by omega), Int.toNat_natCast, drop_take_seg, List.drop_drop, decide_eq_true hl, show a + (upM s a w - a) = upM s a w by omega,
      show a + (upM s a w - a + w.length) = upM s a w + w.length by omega]
  · rw [h2 hl, if_neg (by omega), decide_eq_false hl, seg_end (by omega), show s.drop (upM s a w + w.length) = [] from List.drop_eq_nil_of_le (by omega)]
theorem up_le {s w : List UInt8} {a : Nat} (ha : a <= s.length) : a <= upM s a w /\ upM s a w <= s.length /\ (upM s a w < s.length -> upM s a w + w.length <= s.length) := by
  have F := WQ (q := fun i => Z7 s i w) (n := s.length) (a := a) ha
  exact ⟨F.ge, F.le, fun h => (stand_iff.1 (F.hit h)).1⟩
theorem suffix_last (l : List UInt8) (c : UInt8) : Lib.hasSuffix l [c] = (decide (0 < l.length) && bt l (l.length - 1) == c.toNat) := by
  rw [Bool.eq_iff_iff]
  unfold Lib.hasSuffix
  rw [List.isSuffixOf_iff_suffix, Bool.and_eq_true, decide_eq_true_iff, beq_iff_eq]
  constructor
  · rintro ⟨t, rfl⟩
    refine ⟨by simp, ?_⟩
    unfold bt; simp
  · rintro ⟨h1, h2⟩
    refine ⟨l.take (l.length - 1), ?_⟩
    have e : l[l.length - 1]? = some c := by
      rw [List.getElem?_eq_getElem (by omega)]
      congr 1
      apply VV
      rw [<- h2]
      unfold bt
      rw [List.getD_eq_getElem?_getD, List.getElem?_eq_getElem (by omega)]; rfl
    have e2 : l.drop (l.length - 1) = [c] := by
      rw [List.drop_eq_getElem_cons (by omega : l.length - 1 < l.length)]
      rw [List.getElem?_eq_getElem (by omega)] at e
      rw [Option.some.inj e, show l.drop (l.length - 1 + 1) = [] from List.drop_eq_nil_of_le (by omega)]
    have := List.take_append_drop (l.length - 1) l
    rw [e2] at this
    exact this
theorem nmB_is (b : UInt8) : ((nmB b).toNat : Int) = nmI b.toNat := of_decide_eq_true (u8_all (p := fun b => decide (((nmB b).toNat : Int) = nmI b.toNat)) (by decide +kernel) b)
theorem strEs_set (a b : List UInt8) (c x : UInt8) : (Z2 (a ++ c :: b)).set a.length [.int .u8 x.toNat] = Z2 (a ++ x :: b) := by
  simp [Z2]
theorem strEs_at (a b : List UInt8) (c : UInt8) : (Z2 (a ++ c :: b)).getD a.length [] = [.int .u8 c.toNat] := by
  simp [Z2]
def c48 : SFun := ⟨.seq (.reg [o 2 (.mv (.c (.str [])))]) (.seq (.reg [o 6 (.mv (.t 0)), o 7 (.mv (.t 0)), o 8 (.lenS (.t 7)), o 9 (.min2 (.t 8) (.c (.int .i64 40))), o 10 (.slS (.t 6) none (some (.t 9))), o 11 (.s2b 5 (.t 10)), o 3 (.mv (.t 11))]) (.seq (.seq (.reg [o 12 (.mv (.t 3)), o 13 (.len (.t 12)), o 14 (.mv (.c (.int .i64 0)))]) (.block 0 (.loop (.seq (.reg [o 15 (.bin .lss (.t 14) (.t 13))]) (.seq (.cond (.t 15) .skip (.exit 0)) (.seq (.block 1 (.seq (.reg [o 16 (.mv (.t 14)), o 17 (.idxA 1 (.t 12) (.t 14)), o 18 (.ld 1 false (.t 17)), o 4 (.mv (.t 16)), o 5 (.mv (.t 18))]) (.block 2 (.seq (.reg [o 23 (.mv (.t 5)), o 24 (.bin .geq (.t 23) (.c (.int .u8 65))), o 25 (.mv (.t 24)), ⟨some 26, .mv (.t 5), some (25, true)⟩, ⟨some 27, .bin .leq (.t 26) (.c (.int .u8 90)), some (25, true)⟩, o 28 (.pick (.t 25) (.t 27) (.c (.bool false))), o 22 (.mv (.t 28))]) (.cond (.t 22) (.reg [o 29 (.mv (.t 3)), o 30 (.mv (.t 4)), o 31 (.mv (.t 5)), o 32 (.bin .add (.t 31) (.c (.int .u8 32))), o 33 (.idxA 1 (.t 29) (.t 30)), ⟨none, .st 1 (.t 33) (.t 32), none⟩]) (.seq (.seq (.reg [o 35 (.mv (.t 5)), o 36 (.bin .geq (.t 35) (.c (.int .u8 97))), o 37 (.mv (.t 36)), ⟨some 38, .mv (.t 5), some (37, true)⟩, ⟨some 39, .bin .leq (.t 38) (.c (.int .u8 122)), some (37, true)⟩, o 40 (.pick (.t 37) (.t 39) (.c (.bool false))), o 34 (.mv (.t 40))]) (.cond (.t 34) .skip (.seq (.reg [o 41 (.mv (.t 5)), o 42 (.bin .geq (.t 41) (.c (.int .u8 48))), o 43 (.mv (.t 42)), ⟨some 44, .mv (.t 5), some (43, true)⟩, ⟨some 45, .bin .leq (.t 44) (.c (.int .u8 57)), some (43, true)⟩, o 46 (.pick (.t 43) (.t 45) (.c (.bool false))), o 34 (.mv (.t 46))]) (.cond (.t 34) .skip (.seq (.reg [o 47 (.mv (.t 5)), o 48 (.bin .eql (.t 47) (.c (.int .u8 45))), o 34 (.mv (.t 48))]) (.cond (.t 34) .skip (.seq (.reg [o 49 (.mv (.t 5)), o 50 (.bin .eql (.t 49) (.c (.int .u8 95))), o 34 (.mv (.t 50))]) (.cond (.t 34) .skip (.reg [o 51 (.mv (.t 5)), o 52 (.bin .eql (.t 51) (.c (.int .u8 58))), o 34 (.mv (.t 52))]))))))))) (.cond (.t 34) .skip (.reg [o 19 (.mv (.t 3)), o 20 (.mv (.t 4)), o 21 (.idxA 1 (.t 19) (.t 20)), ⟨none, .st 1 (.t 21) (.c (.int .u8 95)), none⟩])))))))) (.reg [o 53 (.bin .add (.t 14) (.c (.int .i64 1))), o 14 (.mv (.t 53))]))))))) (.seq (.reg [o 54 (.mv (.t 3)), o 55 (.b2s (.t 54)), o 2 (.mv (.t 55))]) .ret))), [.tmp 2]⟩
theorem hc48 : Y5 Tryz.prog {mp := []} Tryz.f48 = some c48 := by kernel_rfl
theorem tokName_ok (s : List UInt8) (hs : s.length <= 1073741824) : PCalls (Pg G) 48 [.str s] (.str (K3 s)) := fun h => by
  obtain ⟨t, ht⟩ : ∃ t, s.take 40 = t := ⟨_, rfl⟩
  have tl : t.length = min s.length 40 := by rw [<- ht, List.length_take]; omega
  have hm : (min (s.length : Int) 40).toNat = min s.length 40 := by omega
  have htk : s.take (min s.length 40) = t := by
    rw [<- ht]
    by_cases hc : s.length <= 40
    · rw [Nat.min_eq_left hc, List.take_of_length_le (Nat.le_refl _), List.take_of_length_le hc]
    · rw [Nat.min_eq_right (by omega)]
  have nl : K3 s = t.map nmB := by unfold K3; rw [ht]
  rw [nl]
  refine Q1 Tryz.func48 (by kernel_rfl) hc48 (by rw [Tryz.ntmps48]; simp) (by rw [Tryz.ntmps48]; decide) ?_
  simp -dsimp -implicitDefEqProofs (disch := omega) only [VCA, Nat.reduceEqDiff, ↓reduceIte, reduceCtorEq, c48, hm, htk]
  refine ⟨by omega, by omega, fun r hr => ?_⟩
  have ne : ∀ k, k <= t.length -> ((t.take k).map nmB ++ t.drop k).length = t.length := fun k hk => by
    rw [List.length_append, List.length_map, List.length_take, List.length_drop]; omega
  refine LoopVC.intro (fun m e h' => ∃ k : Nat, k <= t.length /\ m = t.length - k /\ e 3 = .osl r 1 0 t.length /\ e 12 = .osl r 1 0 t.length /\ e 13 = Q3 t.length /\ e 14 = Q3 k /\
      h' = upd h r (some ⟨.t 5, 1, Z2 ((t.take k).map nmB ++ t.drop k)⟩)) t.length
    (by exact ⟨0, by omega, by omega, rfl, rfl, rfl, rfl, by simp⟩) ?_
  rintro m e h' ⟨k, hk, rfl, e3, e12, e13, e14, hh⟩
  have es : h' r = some ⟨.t 5, 1, Z2 ((t.take k).map nmB ++ t.drop k)⟩ := by rw [hh, Z1]
  have el : (Z2 ((t.take k).map nmB ++ t.drop k)).length = t.length := by rw [Z2, List.length_map]; exact ne k hk
  by_cases hlt : k < t.length
  · obtain ⟨c, hc⟩ : ∃ c, nth t k = c := ⟨_, rfl⟩
    have hd : t.drop k = c :: t.drop (k + 1) := by rw [<- List.getElem_cons_drop hlt, <- hc]; congr 1; have := V8 hlt; rw [List.getElem?_eq_getElem hlt] at this; exact Option.some.inj this
    have lk : ((t.take k).map nmB).length = k := by rw [List.length_map, List.length_take]; omega
    have hat : (Z2 ((t.take k).map nmB ++ t.drop k)).getD k [] = [.int .u8 c.toNat] := by
      have := strEs_at ((t.take k).map nmB) (t.drop (k + 1)) c
      rw [lk, <- hd] at this; exact this
    have ts : (t.take (k + 1)).map nmB ++ t.drop (k + 1) = (t.take k).map nmB ++ nmB c :: t.drop (k + 1) := by
      rw [VY hlt, hc]; simp
    have hset : ∀ x : UInt8, (Z2 ((t.take k).map nmB ++ t.drop k)).set k [.int .u8 x.toNat] = Z2 ((t.take k).map nmB ++ x :: t.drop (k + 1)) := fun x => by
      have := strEs_set ((t.take k).map nmB) (t.drop (k + 1)) c x
      rw [lk, <- hd] at this; exact this
    have cl : c.toNat < 256 := c.toNat_lt
    have hn := nmB_is c
    unfold nmI at hn
    have fS : ∀ v : Int, v = (nmB c).toNat -> upd h' r (some ⟨.t 5, 1, (Z2 ((t.take k).map nmB ++ t.drop k)).set k [.int .u8 v]⟩) = upd h r (some ⟨.t 5, 1, Z2 ((t.take (k + 1)).map nmB ++ t.drop (k + 1))⟩) := by
      rintro _ rfl; rw [hset, ts, hh, YV]
    have fN : nmB c = c -> h' = upd h r (some ⟨.t 5, 1, Z2 ((t.take (k + 1)).map nmB ++ t.drop (k + 1))⟩) := fun q => by rw [ts, q, <- hd]; exact hh
    repeat' (first | ((with_reducible refine brC (fun _ => ?_) fun _ => ?_) <;> try (exfalso; omega)) | (with_reducible refine And.intro ?_ ?_; · omega) | simp -dsimp -implicitDefEqProofs (disch := omega) only [↓Q0 25, ↓Q0 37, ↓Q0 43, VCA, Nat.reduceEqDiff, ↓reduceIte, Z3, exists_eq_left', e3, e12, e13, e14, es, el, hat])
    all_goals first
      | exact ⟨_, by omega, k + 1, by omega, rfl, by omega, fS _ (by rw [hn]; (try simp only [IntKind.wrap_u8]); (repeat' split) <;> omega)⟩
      | exact ⟨_, by omega, k + 1, by omega, rfl, by omega, fN (VV (by rw [hn]; (repeat' split) <;> omega))⟩
      | trace_state
  · obtain rfl : k = t.length := by omega
    rw [List.take_length, List.drop_length, List.append_nil] at es
    repeat' (first | ((with_reducible refine brC (fun _ => ?_) fun _ => ?_) <;> try (exfalso; omega)) | (with_reducible refine And.intro ?_ ?_; · omega) | simp -dsimp -implicitDefEqProofs (disch := omega) only [VCA, Nat.reduceEqDiff, ↓reduceIte, exists_eq_right_right, e3, e13, e14])
    exact ⟨⟨rfl, _, es, by simp [Z2], by rw [List.drop_zero, List.take_of_length_le (by simp [Z2])]⟩, by rw [hh]; exact (Sub.refl h).upd hr⟩
theorem lett_low (b : UInt8) : (decide (97 <= T3 .or .u8 (b.toNat : Int) 32) && decide (T3 .or .u8 (b.toNat : Int) 32 <= 122)) = U1 b.toNat :=
  of_decide_eq_true (u8_all (p := fun b => decide ((decide (97 <= T3 .or .u8 (b.toNat : Int) 32) && decide (T3 .or .u8 (b.toNat : Int) 32 <= 122)) = U1 b.toNat)) (by decide +kernel) b)
theorem low_u8 (b : UInt8) : 0 <= T3 .or .u8 (b.toNat : Int) 32 /\ T3 .or .u8 (b.toNat : Int) 32 < 256 :=
  of_decide_eq_true (u8_all (p := fun b => decide (0 <= T3 .or .u8 (b.toNat : Int) 32 /\ T3 .or .u8 (b.toNat : Int) 32 < 256)) (by decide +kernel) b)
def c56 : SFun := ⟨.seq (.reg [o 2 (.mv (.c (.bool false)))]) (.seq (.reg [o 3 (.mv (.t 0)), o 4 (.bin .or (.t 3) (.c (.int .u8 32))), o 5 (.bin .geq (.t 4) (.c (.int .u8 97))), o 6 (.mv (.t 5)), ⟨some 7, .mv (.t 0), some (6, true)⟩, ⟨some 8, .bin .or (.t 7) (.c (.int .u8 32)), some (6, true)⟩, ⟨some 9, .bin .leq (.t 8) (.c (.int .u8 122)), some (6, true)⟩, o 10 (.pick (.t 6) (.t 9) (.c (.bool false))), o 2 (.mv (.t 10))]) .ret), [.tmp 2]⟩
theorem hc56 : Y5 Tryz.prog {} Tryz.f56 = some c56 := by kernel_rfl
theorem UW (b : UInt8) : PCalls (Pg G) 56 [.int .u8 b.toNat] (.bool (U1 b.toNat)) := fun h => by
  rw [<- lett_low b]
  have l0 := low_u8 b
  generalize hx : T3 .or .u8 (b.toNat : Int) 32 = x at l0
  refine Q1 Tryz.func56 (by kernel_rfl) hc56 (by rw [Tryz.ntmps56]; simp) (by rw [Tryz.ntmps56]; decide) ?_
  simp -dsimp -implicitDefEqProofs (disch := omega) only [↓Q0 6, VCA, ↓reduceIte, reduceCtorEq, c56, hx]
  repeat' (first | ((with_reducible refine brC (fun _ => ?_) fun _ => ?_) <;> try (exfalso; omega)) | (with_reducible refine And.intro ?_ ?_; · omega) | simp -dsimp -implicitDefEqProofs (disch := omega) only [VCA, Nat.reduceEqDiff, ↓reduceIte, reduceCtorEq, exists_eq_right_right, hx])
  all_goals (refine ⟨Sub.refl _, ?_⟩; first | (simp_all; done) | (simp_all; omega))
def c68 : SFun := ⟨.seq (.reg [o 2 (.mv (.c (.bool false)))]) (.seq (.reg [o 3 (.mv (.t 0)), o 4 (.bin .eql (.t 3) (.c (.int .u8 32))), o 5 (.mv (.t 4)), ⟨some 6, .mv (.t 0), some (5, false)⟩, ⟨some 7, .bin .eql (.t 6) (.c (.int .u8 9)), some (5, false)⟩, o 8 (.pick (.t 5) (.c (.bool true)) (.t 7)), o 9 (.mv (.t 8)), ⟨some 10, .mv (.t 0), some (9, false)⟩, ⟨some 11, .bin .eql (.t 10) (.c (.int .u8 10)), some (9, false)⟩, o 12 (.pick (.t 9) (.c (.bool true)) (.t 11)), o 13 (.mv (.t 12)), ⟨some 14, .mv (.t 0), some (13, false)⟩, ⟨some 15, .bin .eql (.t 14) (.c (.int .u8 12)), some (13, false)⟩, o 16 (.pick (.t 13) (.c (.bool true)) (.t 15)), o 17 (.mv (.t 16)), ⟨some 18, .mv (.t 0), some (17, false)⟩, ⟨some 19, .bin .eql (.t 18) (.c (.int .u8 13)), some (17, false)⟩, o 20 (.pick (.t 17) (.c (.bool true)) (.t 19)), o 2 (.mv (.t 20))]) .ret), [.tmp 2]⟩
theorem hc68 : Y5 Tryz.prog {} Tryz.f68 = some c68 := by kernel_rfl
theorem ZQ (b : UInt8) : PCalls (Pg G) 68 [.int .u8 b.toNat] (.bool (U6 b.toNat)) := fun h => by
  unfold U6
  refine Q1 Tryz.func68 (by kernel_rfl) hc68 (by rw [Tryz.ntmps68]; simp) (by rw [Tryz.ntmps68]; decide) ?_
  simp -dsimp -implicitDefEqProofs (disch := omega) only [↓Q0 5, VCA, ↓reduceIte, reduceCtorEq, c68]
  repeat' (first | ((with_reducible refine brC (fun _ => ?_) fun _ => ?_) <;> try (exfalso; omega)) | (with_reducible refine And.intro ?_ ?_; · omega) | simp -dsimp -implicitDefEqProofs (disch := omega) only [↓Q0 9, ↓Q0 13, ↓Q0 17, VCA, Nat.reduceEqDiff, ↓reduceIte, reduceCtorEq, exists_eq_right_right])
  all_goals (refine ⟨Sub.refl _, ?_⟩; first | (simp_all; done) | (rename_i q1 q2 q3 q4; rw [beq_false_of_ne q1, beq_false_of_ne q2, beq_false_of_ne q3, beq_false_of_ne q4]; rfl))
def c64 : SFun := ⟨.seq (.reg [o 2 (.mv (.c (.str [])))]) (.seq (.reg [o 4 (.mv (.t 0)), o 5 (.pcall 48 [.t 4]), o 3 (.mv (.t 5))]) (.seq (.seq (.reg [o 6 (.mv (.t 3)), o 7 (.bin .neq (.t 6) (.c (.str []))), o 8 (.mv (.t 7)), ⟨some 9, .mv (.t 3), some (8, true)⟩, ⟨some 10, .idxS (.t 9) (.c (.int .i64 0)), some (8, true)⟩, ⟨some 11, .pcall 56 [.t 10], some (8, true)⟩, ⟨some 12, .un .not (.t 11), some (8, true)⟩, o 13 (.pick (.t 8) (.t 12) (.c (.bool false))), o 14 (.mv (.t 13)), ⟨some 15, .mv (.t 3), some (14, true)⟩, ⟨some 16, .idxS (.t 15) (.c (.int .i64 0)), some (14, true)⟩, ⟨some 17, .bin .neq (.t 16) (.c (.int .u8 45)), some (14, true)⟩, o 18 (.pick (.t 14) (.t 17) (.c (.bool false)))]) (.cond (.t 18) (.reg [o 19 (.mv (.t 3)), o 20 (.slS (.t 19) (some (.c (.int .i64 1))) none), o 21 (.bin .add (.c (.str [95])) (.t 20)), o 3 (.mv (.t 21))]) .skip)) (.seq (.reg [o 22 (.mv (.t 3)), o 2 (.mv (.t 22))]) .ret))), [.tmp 2]⟩
theorem hc64 : Y5 Tryz.prog {pure := [48, 56]} Tryz.f64 = some c64 := by kernel_rfl
theorem tokAttrName_ok (s : List UInt8) (hs : s.length <= 1073741824) : PCalls (Pg G) 64 [.str s] (.str (K8 s)) := fun h => by
  have cN := tokName_ok (G := G) s hs
  have nl : (K3 s).length <= 40 := by unfold K3; rw [List.length_map, List.length_take]; omega
  unfold K8
  obtain ⟨t, ht⟩ : ∃ t, K3 s = t := ⟨_, rfl⟩
  rw [ht] at cN nl ⊢
  cases t with
  | nil =>
    have e0 : (([] : List UInt8) != []) = false := rfl
    refine Q1 Tryz.func64 (by kernel_rfl) hc64 (by rw [Tryz.ntmps64]; simp) (by rw [Tryz.ntmps64]; decide) ?_
    simp -dsimp -implicitDefEqProofs (disch := omega) only [VCA, ↓reduceIte, reduceCtorEq, ne_eq, c64]
    repeat' (first | ((with_reducible refine brC (fun _ => ?_) fun _ => ?_) <;> try (exfalso; omega)) | (with_reducible apply pcallE.of; · exact cN) | (with_reducible refine And.intro ?_ ?_; · omega) | simp -dsimp -implicitDefEqProofs (disch := omega) only [↓Q0 8, ↓Q0 14, VCA, Nat.reduceEqDiff, ↓reduceIte, exists_eq_right_right, e0])
    exact ⟨Sub.refl _, by rw [if_neg (fun q => q.1)]⟩
  | cons c r =>
    have e0 : ((c :: r) != []) = true := rfl
    have cL := UW (G := G) c
    have hb : bt (c :: r) 0 = c.toNat := rfl
    rw [hb]
    refine Q1 Tryz.func64 (by kernel_rfl) hc64 (by rw [Tryz.ntmps64]; simp) (by rw [Tryz.ntmps64]; decide) ?_
    simp -dsimp -implicitDefEqProofs (disch := omega) only [VCA, ↓reduceIte, reduceCtorEq, ne_eq, c64]
    repeat' (first | ((with_reducible refine brC (fun _ => ?_) fun _ => ?_) <;> try (exfalso; omega)) | (with_reducible apply pcallE.of; · exact cN) | (with_reducible apply pcallE.of; · exact cL) | (with_reducible refine And.intro ?_ ?_; · omega) | simp -dsimp -implicitDefEqProofs (disch := omega) only [↓Q0 8, ↓Q0 14, VCA, Nat.reduceEqDiff, ↓reduceIte, exists_eq_right_right, e0])
    all_goals first
      | (refine ⟨Sub.refl _, ?_⟩; simp_all; done)
      | (refine ⟨by rw [List.length_drop]; omega, Sub.refl _, ?_⟩; simp_all; done)
      | trace_state
end Go.Proofs.K
end
