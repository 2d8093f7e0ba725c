/- Texts of this claim, one behind the other. -/
import Derived.Shelf.Strings.Builder1
import Derived.Shelf.Strings.Builder2
import Derived.Shelf.Strings.Trim
import Derived.Shelf.Small.Utf8
import Derived.Shelf.Small.Strs
import Derived.Shelf.Strings.BuilderF
import Derived.Shelf.Utf8.RuneCount
import Derived.Shelf.Strings.Search1
import Derived.Shelf.Strings.Search2
import Derived.Shelf.Strings.Search3
import Derived.Shelf.Strings.Cut
import Derived.Shelf.Strings.Count
import Derived.Shelf.LaysM
import Derived.Shelf.Strings.Shaped
import Derived.Shelf.Strings.Prefix
import Derived.Shelf.Strings.Split
import Derived.Shelf.Strings.Replace
import Derived.Shelf.Strings.Fold
import Derived.Shelf.Strings.SplitShaped
import Derived.Shelf.Unicode.Decode
import Derived.Shelf.Strings.Runes
import Derived.Shelf.Strings.RuneCount
import Derived.Shelf.Strings.IndexAny
import Derived.Shelf.Strings.AsciiSet
import Derived.Shelf.Strings.IndexAnyAll
import Derived.Shelf.Unicode.DecodeSlow
import Derived.Shelf.Unicode.DecodeAny
import Derived.Shelf.Unicode.DecodeLast
import Derived.Shelf.Unicode.CaseLookup
import Derived.Shelf.Unicode.CaseConvert
import Derived.Shelf.Slices.Turned
import Derived.Shelf.Slices.Reverse
import Derived.Ground.Names2Prog
import Derived.Shelf.Slices.Clone
import Derived.Shelf.Slices.Delete
import Derived.Shelf.Slices.Cells
import Derived.Shelf.Slices.Empties
import Derived.Ground.SlgnProg
import Derived.Shelf.SlicesE.Reverse
import Derived.Shelf.SlicesE.Delete
import Derived.Shelf.SlicesE.Clone
import Derived.Test.YtbieeakcnechoaaGreatDoorProg
import Derived.Test.YtbieeakcnechoaaGreatDoorM3
import Derived.KernelRfl
import Derived.Test.YtbieeakcnechoaaGreatDoorRows
import Derived.WalkKit
import Derived.ProofKit
import Derived.OpenShut
import Derived.JoinedCond
import Derived.Lib.LaidU8T
import Derived.PinnedBridge
import Derived.Shelf.Vars
import Derived.Below
import Derived.Test.YtbieeakcnechoaaGreatDoorCards
import Derived.Test.YtbieeakcnechoaaGreatDoorTie
import Derived.Deep.DeepHandedRow
import Derived.MakeChecks
import Derived.Lib.LaidCaseMet
import Derived.Lib.LaidIn
import Derived.Deep.DeepWitnessRowRef
import Derived.Shelf.Strings.SlTrimAscii
import Derived.Lib.IndexAny
import Derived.Shelf.Spec.SlicesInsert
import Derived.Shelf.Spec.SlicesInsertGrow
set_option maxHeartbeats 4000000
set_option maxRecDepth 100000
section
namespace Go.Proofs
open Go.Shelf
def Tryz.lays161_ren:Go.Shelf.Ren:=⟨fun | 161=>85 | 231=>69 | 227=>71 | 233=>72 | 235=>74 | 228=>108 | 197=>106 | 151=>109 | 260=>164 | 152=>165 | 137=>50 | 119=>208 | 224=>206 | 225=>205 | 217=>68 | 266=>107 | n=>n,fun | 9=>9 | 4=>4 | 3=>3 | 5=>5 | 117=>123 | 116=>122 | 0=>0 | 124=>126 | 105=>113 | 21=>21 | 119=>184 | 46=>134 | 139=>187 | 138=>186 | n=>n,fun | 3=>1 | 4=>2 | n=>n⟩
theorem Tryz.lays161:Go.Proofs.Lays.n161 Tryz.prog Tryz.lays161_ren:={
 mixed:=by kernel_rfl
 f119:=Tryz.func208.trans (congrArg some (by kernel_rfl))
 f137:=Tryz.func50.trans (congrArg some (by kernel_rfl))
 f151:=Tryz.func109.trans (congrArg some (by kernel_rfl))
 f152:=Tryz.func165.trans (congrArg some (by kernel_rfl))
 f161:=Tryz.func85.trans (congrArg some (by kernel_rfl))
 f197:=Tryz.func106.trans (congrArg some (by kernel_rfl))
 f217:=Tryz.func68.trans (congrArg some (by kernel_rfl))
 f224:=Tryz.func206.trans (congrArg some (by kernel_rfl))
 f225:=Tryz.func205.trans (congrArg some (by kernel_rfl))
 f227:=Tryz.func71.trans (congrArg some (by kernel_rfl))
 f228:=Tryz.func108.trans (congrArg some (by kernel_rfl))
 f231:=Tryz.func69.trans (congrArg some (by kernel_rfl))
 f233:=Tryz.func72.trans (congrArg some (by kernel_rfl))
 f235:=Tryz.func74.trans (congrArg some (by kernel_rfl))
 f260:=Tryz.func164.trans (congrArg some (by kernel_rfl))
 f266:=Tryz.func107.trans (congrArg some (by kernel_rfl))
 t0:=Tryz.underlying0
 a0:=Tryz.isAgg0
 z0:=Tryz.sizeOf0
 v0:=Tryz.zeroValue0
 t3:=Tryz.underlying3
 a3:=Tryz.isAgg3
 z3:=Tryz.sizeOf3
 v3:=Tryz.zeroValue3
 t4:=Tryz.underlying4
 a4:=Tryz.isAgg4
 z4:=Tryz.sizeOf4
 v4:=Tryz.zeroValue4
 t5:=Tryz.underlying5
 a5:=Tryz.isAgg5
 z5:=Tryz.sizeOf5
 v5:=Tryz.zeroValue5
 t9:=Tryz.underlying9
 a9:=Tryz.isAgg9
 z9:=Tryz.sizeOf9
 v9:=Tryz.zeroValue9
 t21:=Tryz.underlying21
 a21:=Tryz.isAgg21
 z21:=Tryz.sizeOf21
 v21:=Tryz.zeroValue21
 t46:=Tryz.underlying134
 a46:=Tryz.isAgg134
 z46:=Tryz.sizeOf134
 v46:=Tryz.zeroValue134
 t105:=Tryz.underlying113
 a105:=Tryz.isAgg113
 z105:=Tryz.sizeOf113
 v105:=Tryz.zeroValue113
 t116:=Tryz.underlying122
 a116:=Tryz.isAgg122
 z116:=Tryz.sizeOf122
 t117:=Tryz.underlying123
 a117:=Tryz.isAgg123
 z117:=Tryz.sizeOf123
 v117:=Tryz.zeroValue123
 t119:=Tryz.underlying184
 a119:=Tryz.isAgg184
 z119:=Tryz.sizeOf184
 t124:=Tryz.underlying126
 a124:=Tryz.isAgg126
 z124:=Tryz.sizeOf126
 v124:=Tryz.zeroValue126
 t138:=Tryz.underlying186
 a138:=Tryz.isAgg186
 z138:=Tryz.sizeOf186
 v138:=Tryz.zeroValue186
 t139:=Tryz.underlying187
 a139:=Tryz.isAgg187
 z139:=Tryz.sizeOf187
 v139:=Tryz.zeroValue187
 g3:=by kernel_rfl
 g4:=by kernel_rfl }
def Tryz.lays160_ren:Go.Shelf.Ren:=⟨fun | 160=>51 | 232=>70 | 231=>69 | 227=>71 | 234=>73 | 233=>72 | 236=>75 | 235=>74 | 228=>108 | 271=>110 | 151=>109 | 197=>106 | 120=>166 | 152=>165 | 260=>164 | 137=>50 | 119=>208 | 224=>206 | 225=>205 | 217=>68 | 266=>107 | n=>n,fun | 9=>9 | 4=>4 | 3=>3 | 5=>5 | 117=>123 | 116=>122 | 0=>0 | 124=>126 | 21=>21 | 105=>113 | 46=>134 | 119=>184 | 139=>187 | 138=>186 | n=>n,fun | 3=>1 | 4=>2 | n=>n⟩
theorem Tryz.lays160:Go.Proofs.Lays.n160 Tryz.prog Tryz.lays160_ren:={
 mixed:=by kernel_rfl
 f119:=Tryz.func208.trans (congrArg some (by kernel_rfl))
 f120:=Tryz.func166.trans (congrArg some (by kernel_rfl))
 f137:=Tryz.func50.trans (congrArg some (by kernel_rfl))
 f151:=Tryz.func109.trans (congrArg some (by kernel_rfl))
 f152:=Tryz.func165.trans (congrArg some (by kernel_rfl))
 f160:=Tryz.func51.trans (congrArg some (by kernel_rfl))
 f197:=Tryz.func106.trans (congrArg some (by kernel_rfl))
 f217:=Tryz.func68.trans (congrArg some (by kernel_rfl))
 f224:=Tryz.func206.trans (congrArg some (by kernel_rfl))
 f225:=Tryz.func205.trans (congrArg some (by kernel_rfl))
 f227:=Tryz.func71.trans (congrArg some (by kernel_rfl))
 f228:=Tryz.func108.trans (congrArg some (by kernel_rfl))
 f231:=Tryz.func69.trans (congrArg some (by kernel_rfl))
 f232:=Tryz.func70.trans (congrArg some (by kernel_rfl))
 f233:=Tryz.func72.trans (congrArg some (by kernel_rfl))
 f234:=Tryz.func73.trans (congrArg some (by kernel_rfl))
 f235:=Tryz.func74.trans (congrArg some (by kernel_rfl))
 f236:=Tryz.func75.trans (congrArg some (by kernel_rfl))
 f260:=Tryz.func164.trans (congrArg some (by kernel_rfl))
 f266:=Tryz.func107.trans (congrArg some (by kernel_rfl))
 f271:=Tryz.func110.trans (congrArg some (by kernel_rfl))
 t0:=Tryz.underlying0
 a0:=Tryz.isAgg0
 z0:=Tryz.sizeOf0
 v0:=Tryz.zeroValue0
 t3:=Tryz.underlying3
 a3:=Tryz.isAgg3
 z3:=Tryz.sizeOf3
 v3:=Tryz.zeroValue3
 t4:=Tryz.underlying4
 a4:=Tryz.isAgg4
 z4:=Tryz.sizeOf4
 v4:=Tryz.zeroValue4
 t5:=Tryz.underlying5
 a5:=Tryz.isAgg5
 z5:=Tryz.sizeOf5
 v5:=Tryz.zeroValue5
 t9:=Tryz.underlying9
 a9:=Tryz.isAgg9
 z9:=Tryz.sizeOf9
 v9:=Tryz.zeroValue9
 t21:=Tryz.underlying21
 a21:=Tryz.isAgg21
 z21:=Tryz.sizeOf21
 v21:=Tryz.zeroValue21
 t46:=Tryz.underlying134
 a46:=Tryz.isAgg134
 z46:=Tryz.sizeOf134
 v46:=Tryz.zeroValue134
 t105:=Tryz.underlying113
 a105:=Tryz.isAgg113
 z105:=Tryz.sizeOf113
 v105:=Tryz.zeroValue113
 t116:=Tryz.underlying122
 a116:=Tryz.isAgg122
 z116:=Tryz.sizeOf122
 t117:=Tryz.underlying123
 a117:=Tryz.isAgg123
 z117:=Tryz.sizeOf123
 v117:=Tryz.zeroValue123
 t119:=Tryz.underlying184
 a119:=Tryz.isAgg184
 z119:=Tryz.sizeOf184
 t124:=Tryz.underlying126
 a124:=Tryz.isAgg126
 z124:=Tryz.sizeOf126
 v124:=Tryz.zeroValue126
 t138:=Tryz.underlying186
 a138:=Tryz.isAgg186
 z138:=Tryz.sizeOf186
 v138:=Tryz.zeroValue186
 t139:=Tryz.underlying187
 a139:=Tryz.isAgg187
 z139:=Tryz.sizeOf187
 v139:=Tryz.zeroValue187
 g3:=by kernel_rfl
 g4:=by kernel_rfl }
def Tryz.lays137_ren:Go.Shelf.Ren:=⟨fun | 137=>50 | 217=>68 | 266=>107 | n=>n,fun | 9=>9 | 5=>5 | 3=>3 | n=>n,fun | n=>n⟩
theorem Tryz.lays137:Go.Proofs.Lays.n137 Tryz.prog Tryz.lays137_ren:={
 mixed:=by kernel_rfl
 f137:=Tryz.func50.trans (congrArg some (by kernel_rfl))
 f217:=Tryz.func68.trans (congrArg some (by kernel_rfl))
 f266:=Tryz.func107.trans (congrArg some (by kernel_rfl))
 t3:=Tryz.underlying3
 a3:=Tryz.isAgg3
 z3:=Tryz.sizeOf3
 v3:=Tryz.zeroValue3
 t5:=Tryz.underlying5
 a5:=Tryz.isAgg5
 z5:=Tryz.sizeOf5
 v5:=Tryz.zeroValue5
 t9:=Tryz.underlying9
 a9:=Tryz.isAgg9
 z9:=Tryz.sizeOf9
 v9:=Tryz.zeroValue9 }
open Go.RowKit in
theorem Tryz.strings_IndexByte (s:ByteArray) (c:Int) (w:World) :
 Calls Tryz.prog 50 #[.string s,.int .u8 c] w fun e w'=>e=.returned (.int .i64 (Lib.indexByte s.data.toList c.toNat.toUInt8))/\w'=w:=Any.strings_IndexByte Tryz.lays137 s c w
def Tryz.lays144_ren:Go.Shelf.Ren:=⟨fun | 144=>67 | 143=>105 | 219=>163 | 217=>68 | 225=>205 | 224=>206 | 267=>207 | 266=>107 | 314=>235 | n=>n,fun | 9=>9 | 4=>4 | 3=>3 | 5=>5 | 46=>134 | 146=>211 | 51=>135 | n=>n,fun | 1=>0 | n=>n⟩
theorem Tryz.lays144:Go.Proofs.Lays.n144 Tryz.prog Tryz.lays144_ren:={
 mixed:=by kernel_rfl
 f143:=Tryz.func105.trans (congrArg some (by kernel_rfl))
 f144:=Tryz.func67.trans (congrArg some (by kernel_rfl))
 f217:=Tryz.func68.trans (congrArg some (by kernel_rfl))
 f219:=Tryz.func163.trans (congrArg some (by kernel_rfl))
 f224:=Tryz.func206.trans (congrArg some (by kernel_rfl))
 f225:=Tryz.func205.trans (congrArg some (by kernel_rfl))
 f266:=Tryz.func107.trans (congrArg some (by kernel_rfl))
 f267:=Tryz.func207.trans (congrArg some (by kernel_rfl))
 f314:=Tryz.func235.trans (congrArg some (by kernel_rfl))
 t3:=Tryz.underlying3
 a3:=Tryz.isAgg3
 z3:=Tryz.sizeOf3
 v3:=Tryz.zeroValue3
 t4:=Tryz.underlying4
 a4:=Tryz.isAgg4
 z4:=Tryz.sizeOf4
 v4:=Tryz.zeroValue4
 t5:=Tryz.underlying5
 a5:=Tryz.isAgg5
 z5:=Tryz.sizeOf5
 v5:=Tryz.zeroValue5
 t9:=Tryz.underlying9
 a9:=Tryz.isAgg9
 z9:=Tryz.sizeOf9
 v9:=Tryz.zeroValue9
 t46:=Tryz.underlying134
 a46:=Tryz.isAgg134
 z46:=Tryz.sizeOf134
 v46:=Tryz.zeroValue134
 t51:=Tryz.underlying135
 a51:=Tryz.isAgg135
 z51:=Tryz.sizeOf135
 v51:=Tryz.zeroValue135
 t146:=Tryz.underlying211
 a146:=Tryz.isAgg211
 z146:=Tryz.sizeOf211
 v146:=Tryz.zeroValue211
 g1:=by kernel_rfl }
open Go.RowKit Go.Lib in
theorem Tryz.strings_Contains (s sub:ByteArray) (m:Int) (w:World) (hs:s.size<4294967281) (hm:w.cell? ⟨0,0,none⟩=some (.int .i64 m)) :
 Calls Tryz.prog 67 #[.string s,.string sub] w fun e w'=>e=.returned (.bool (Lib.contains s.data.toList sub.data.toList))/\w'=w:=Any.strings_Contains Tryz.lays144 s sub m w hs hm
def Tryz.lays145_ren:Go.Shelf.Ren:=⟨fun | 145=>169 | 220=>213 | 219=>163 | 217=>68 | 225=>205 | 224=>206 | 267=>207 | 266=>107 | 314=>235 | n=>n,fun | 9=>9 | 4=>4 | 59=>162 | 3=>3 | 5=>5 | 46=>134 | 146=>211 | 51=>135 | n=>n,fun | 1=>0 | n=>n⟩
theorem Tryz.lays145:Go.Proofs.Lays.n145 Tryz.prog Tryz.lays145_ren:={
 mixed:=by kernel_rfl
 f145:=Tryz.func169.trans (congrArg some (by kernel_rfl))
 f217:=Tryz.func68.trans (congrArg some (by kernel_rfl))
 f219:=Tryz.func163.trans (congrArg some (by kernel_rfl))
 f220:=Tryz.func213.trans (congrArg some (by kernel_rfl))
 f224:=Tryz.func206.trans (congrArg some (by kernel_rfl))
 f225:=Tryz.func205.trans (congrArg some (by kernel_rfl))
 f266:=Tryz.func107.trans (congrArg some (by kernel_rfl))
 f267:=Tryz.func207.trans (congrArg some (by kernel_rfl))
 f314:=Tryz.func235.trans (congrArg some (by kernel_rfl))
 t3:=Tryz.underlying3
 a3:=Tryz.isAgg3
 z3:=Tryz.sizeOf3
 v3:=Tryz.zeroValue3
 t4:=Tryz.underlying4
 a4:=Tryz.isAgg4
 z4:=Tryz.sizeOf4
 v4:=Tryz.zeroValue4
 t5:=Tryz.underlying5
 a5:=Tryz.isAgg5
 z5:=Tryz.sizeOf5
 v5:=Tryz.zeroValue5
 t9:=Tryz.underlying9
 a9:=Tryz.isAgg9
 z9:=Tryz.sizeOf9
 v9:=Tryz.zeroValue9
 t46:=Tryz.underlying134
 a46:=Tryz.isAgg134
 z46:=Tryz.sizeOf134
 v46:=Tryz.zeroValue134
 t51:=Tryz.underlying135
 a51:=Tryz.isAgg135
 z51:=Tryz.sizeOf135
 v51:=Tryz.zeroValue135
 t59:=Tryz.underlying162
 a59:=Tryz.isAgg162
 z59:=Tryz.sizeOf162
 v59:=Tryz.zeroValue162
 t146:=Tryz.underlying211
 a146:=Tryz.isAgg211
 z146:=Tryz.sizeOf211
 v146:=Tryz.zeroValue211
 g1:=by kernel_rfl }
open Go.RowKit Go.Lib in
theorem Tryz.strings_Cut (s sep:ByteArray) (m:Int) (w:World) (hs:s.size<4294967281) (hm:w.cell? ⟨0,0,none⟩=some (.int .i64 m)) :
 Calls Tryz.prog 169 #[.string s,.string sep] w fun e w'=>e=.returned (.tuple #[.string ⟨(Lib.cut s.data.toList sep.data.toList).1.toArray⟩,.string ⟨(Lib.cut s.data.toList sep.data.toList).2.1.toArray⟩,.bool (Lib.cut s.data.toList sep.data.toList).2.2]) /\ ∃ n,w'=w.drewN n:=Any.strings_Cut Tryz.lays145 s sep m w hs hm
def Tryz.lays155_ren:Go.Shelf.Ren:=⟨fun | 155=>47 | 154=>66 | 138=>103 | 165=>104 | 143=>105 | 166=>24 | 197=>106 | 169=>14 | 195=>160 | 218=>161 | 240=>33 | 241=>162 | 219=>163 | 260=>164 | 276=>46 | 277=>204 | 217=>68 | 225=>205 | 224=>206 | 267=>207 | 266=>107 | 314=>235 | n=>n,fun | 9=>9 | 3=>3 | 4=>4 | 72=>49 | 0=>0 | 76=>70 | 105=>113 | 21=>21 | 5=>5 | 70=>46 | 20=>20 | 37=>47 | 75=>69 | 127=>73 | 164=>100 | 46=>134 | 119=>184 | 139=>187 | 138=>186 | 146=>211 | 51=>135 | 80=>53 | n=>n,fun | 1=>0 | 3=>1 | 4=>2 | n=>n⟩
theorem Tryz.lays155:Go.Proofs.Lays.n155 Tryz.prog Tryz.lays155_ren:={
 mixed:=by kernel_rfl
 f138:=Tryz.func103.trans (congrArg some (by kernel_rfl))
 f143:=Tryz.func105.trans (congrArg some (by kernel_rfl))
 f154:=Tryz.func66.trans (congrArg some (by kernel_rfl))
 f155:=Tryz.func47.trans (congrArg some (by kernel_rfl))
 f165:=Tryz.func104.trans (congrArg some (by kernel_rfl))
 f166:=Tryz.func24.trans (congrArg some (by kernel_rfl))
 f169:=Tryz.func14.trans (congrArg some (by kernel_rfl))
 f195:=Tryz.func160.trans (congrArg some (by kernel_rfl))
 f197:=Tryz.func106.trans (congrArg some (by kernel_rfl))
 f217:=Tryz.func68.trans (congrArg some (by kernel_rfl))
 f218:=Tryz.func161.trans (congrArg some (by kernel_rfl))
 f219:=Tryz.func163.trans (congrArg some (by kernel_rfl))
 f224:=Tryz.func206.trans (congrArg some (by kernel_rfl))
 f225:=Tryz.func205.trans (congrArg some (by kernel_rfl))
 f240:=Tryz.func33.trans (congrArg some (by kernel_rfl))
 f241:=Tryz.func162.trans (congrArg some (by kernel_rfl))
 f260:=Tryz.func164.trans (congrArg some (by kernel_rfl))
 f266:=Tryz.func107.trans (congrArg some (by kernel_rfl))
 f267:=Tryz.func207.trans (congrArg some (by kernel_rfl))
 f276:=Tryz.func46.trans (congrArg some (by kernel_rfl))
 f277:=Tryz.func204.trans (congrArg some (by kernel_rfl))
 f314:=Tryz.func235.trans (congrArg some (by kernel_rfl))
 t0:=Tryz.underlying0
 a0:=Tryz.isAgg0
 z0:=Tryz.sizeOf0
 v0:=Tryz.zeroValue0
 t3:=Tryz.underlying3
 a3:=Tryz.isAgg3
 z3:=Tryz.sizeOf3
 v3:=Tryz.zeroValue3
 t4:=Tryz.underlying4
 a4:=Tryz.isAgg4
 z4:=Tryz.sizeOf4
 v4:=Tryz.zeroValue4
 t5:=Tryz.underlying5
 a5:=Tryz.isAgg5
 z5:=Tryz.sizeOf5
 v5:=Tryz.zeroValue5
 t9:=Tryz.underlying9
 a9:=Tryz.isAgg9
 z9:=Tryz.sizeOf9
 v9:=Tryz.zeroValue9
 t20:=Tryz.underlying20
 a20:=Tryz.isAgg20
 z20:=Tryz.sizeOf20
 v20:=Tryz.zeroValue20
 t21:=Tryz.underlying21
 a21:=Tryz.isAgg21
 z21:=Tryz.sizeOf21
 v21:=Tryz.zeroValue21
 t37:=Tryz.underlying47
 a37:=Tryz.isAgg47
 z37:=Tryz.sizeOf47
 v37:=Tryz.zeroValue47
 t46:=Tryz.underlying134
 a46:=Tryz.isAgg134
 z46:=Tryz.sizeOf134
 v46:=Tryz.zeroValue134
 t51:=Tryz.underlying135
 a51:=Tryz.isAgg135
 z51:=Tryz.sizeOf135
 v51:=Tryz.zeroValue135
 t70:=Tryz.underlying46
 a70:=Tryz.isAgg46
 z70:=Tryz.sizeOf46
 v70:=Tryz.zeroValue46
 t72:=Tryz.underlying49
 a72:=Tryz.isAgg49
 z72:=Tryz.sizeOf49
 v72:=Tryz.zeroValue49
 t75:=Tryz.underlying69
 a75:=Tryz.isAgg69
 z75:=Tryz.sizeOf69
 v75:=Tryz.zeroValue69
 t76:=Tryz.underlying70
 a76:=Tryz.isAgg70
 z76:=Tryz.sizeOf70
 v76:=Tryz.zeroValue70
 t105:=Tryz.underlying113
 a105:=Tryz.isAgg113
 z105:=Tryz.sizeOf113
 v105:=Tryz.zeroValue113
 t119:=Tryz.underlying184
 a119:=Tryz.isAgg184
 z119:=Tryz.sizeOf184
 t127:=Tryz.underlying73
 a127:=Tryz.isAgg73
 z127:=Tryz.sizeOf73
 v127:=Tryz.zeroValue73
 t138:=Tryz.underlying186
 a138:=Tryz.isAgg186
 z138:=Tryz.sizeOf186
 v138:=Tryz.zeroValue186
 t139:=Tryz.underlying187
 a139:=Tryz.isAgg187
 z139:=Tryz.sizeOf187
 v139:=Tryz.zeroValue187
 t146:=Tryz.underlying211
 a146:=Tryz.isAgg211
 z146:=Tryz.sizeOf211
 v146:=Tryz.zeroValue211
 t164:=Tryz.underlying100
 a164:=Tryz.isAgg100
 z164:=Tryz.sizeOf100
 v164:=Tryz.zeroValue100
 g1:=by kernel_rfl
 g3:=by kernel_rfl
 g4:=by kernel_rfl }
theorem Tryz.Builder_Extra_155:Builder.Extra Tryz.prog Tryz.lays155_ren:={
 sizeBuilder:=by kernel_rfl
 liesBuilder:=by kernel_rfl
 t5:=Tryz.underlying5
 a5:=Tryz.isAgg5
 z5:=Tryz.sizeOf5
 v5:=Tryz.zeroValue5
 infoByte:=by kernel_rfl
 cellsByte:=by kernel_rfl
 sizeByte:=by kernel_rfl
 neB5:=by decide }
open Go.RowKit Go.Lib in
theorem Tryz.strings_ReplaceAll (s old new:ByteArray) (m:Int) (w:World) (hs:s.size<4294967281) (hm:w.cell? ⟨0,0,none⟩=some (.int .i64 m)) (h1:1<=old.size) (hlen:s.size+Lib.countB s old*new.size<=140737488355328) :
 Calls Tryz.prog 47 #[.string s,.string old,.string new] w fun e w'=>
  e=.returned (.string ⟨(Lib.replaceAll s.data.toList old.data.toList new.data.toList).toArray⟩)/\Below w.heap.size w w':=Any.strings_ReplaceAll Tryz.lays155 Tryz.Builder_Extra_155 s old new m w hs hm h1 hlen
def Tryz.lays274_ren:Go.Shelf.Ren:=⟨fun | 274=>211 | n=>n,fun | 21=>21 | 162=>197 | 160=>195 | 3=>3 | 4=>4 | 46=>134 | 0=>0 | 208=>221 | 51=>135 | 206=>219 | n=>n,fun | n=>n⟩
theorem Tryz.lays274:Go.Proofs.Lays.n274 Tryz.prog Tryz.lays274_ren:={
 mixed:=by kernel_rfl
 f274:=Tryz.func211.trans (congrArg some (by kernel_rfl))
 t0:=Tryz.underlying0
 a0:=Tryz.isAgg0
 z0:=Tryz.sizeOf0
 v0:=Tryz.zeroValue0
 t3:=Tryz.underlying3
 a3:=Tryz.isAgg3
 z3:=Tryz.sizeOf3
 v3:=Tryz.zeroValue3
 t4:=Tryz.underlying4
 a4:=Tryz.isAgg4
 z4:=Tryz.sizeOf4
 v4:=Tryz.zeroValue4
 t21:=Tryz.underlying21
 a21:=Tryz.isAgg21
 z21:=Tryz.sizeOf21
 v21:=Tryz.zeroValue21
 t46:=Tryz.underlying134
 a46:=Tryz.isAgg134
 z46:=Tryz.sizeOf134
 v46:=Tryz.zeroValue134
 t51:=Tryz.underlying135
 a51:=Tryz.isAgg135
 z51:=Tryz.sizeOf135
 v51:=Tryz.zeroValue135
 t160:=Tryz.underlying195
 a160:=Tryz.isAgg195
 z160:=Tryz.sizeOf195
 v160:=Tryz.zeroValue195
 t162:=Tryz.underlying197
 a162:=Tryz.isAgg197
 z162:=Tryz.sizeOf197
 v162:=Tryz.zeroValue197
 t208:=Tryz.underlying221
 a208:=Tryz.isAgg221
 z208:=Tryz.sizeOf221
 v208:=Tryz.zeroValue221 }
end Go.Proofs
end
section
namespace Go.Proofs.K
open Go Go.Sim Go.Proofs
noncomputable abbrev Pg (G:U5):PG:=⟨Tryz.prog,G⟩
theorem Z1 (G:U5):(Pg G).gl=G:=rfl
end Go.Proofs.K
end
section
set_option linter.unusedSimpArgs false
set_option linter.unusedVariables false
namespace Go.Proofs.YtbieeakcnechoaaGreatDoor
open Go Go.Sim Go.Proofs Go.ChangeShapes Go.WideShapes Go.ChangeAt Go.RowKit
theorem own:ownKnob Tryz.prog.godebug=none:=by kernel_rfl
theorem bulkAll_mem {H:Type} {d:DataW H} {l:List (DataW H)} (h:d∈l):Rows.uptoBulk d<=Rows.uptoBulkAll l:=by
 induction l with
 | nil=>cases h
 | cons x r ih=>
   simp only [Rows.uptoBulkAll]
   rcases List.mem_cons.1 h with e | e
   ·subst e;omega
   ·have:=ih e;omega
theorem bulk_pos {H:Type} (d:DataW H):1<=Rows.uptoBulk d:=by
 cases d with
 | lit l=>cases l <;> simp [Rows.uptoBulk]
 | _=>simp [Rows.uptoBulk]
theorem bulkAll_len {H:Type} (l:List (DataW H)):l.length<=Rows.uptoBulkAll l:=by
 induction l with
 | nil=>simp [Rows.uptoBulkAll]
 | cons x r ih=>have:=bulk_pos x;simp only [Rows.uptoBulkAll,List.length_cons];omega
theorem bulk (H:Type):Bulk (Rows.uptoBulk (H:=H)) where
 str l:=by simp [Rows.uptoBulk]
 len es sp:=by have:=bulkAll_len es;simp only [Rows.uptoBulk];omega
 elem es sp d h:=by have:=bulkAll_mem h;simp only [Rows.uptoBulk];omega
 part ps d h:=by have:=bulkAll_mem h;simp only [Rows.uptoBulk];omega
noncomputable def G0:U5:=fun _=>.dead
variable {H:Type} {enc:TypeId×Value->H} {w:World}
theorem mStr:Mono (fun k (l:List UInt8)=>l.length<=k):=fun _ _ _ h1 h2=>Nat.le_trans h2 h1
theorem mInt {k:IntKind}:Mono (fun (_:Nat) (n:Int)=>(Lit.int k n).wf=true):=fun _ _ _ _ h=>h
theorem rInt:Rdr enc Tryz.prog w Rows.uptoBulk 3 Z7 (fun _ n=>(Lit.int .i64 n).wf=true):=Rdr.int Tryz.underlying3
theorem rBool:Rdr enc Tryz.prog w Rows.uptoBulk 4 (fun b:Bool=>[.bool b]) (fun _ _=>True):=Rdr.bool Tryz.underlying4
theorem rStr:Rdr enc Tryz.prog w Rows.uptoBulk 9 (fun l:List UInt8=>[.str l]) (fun k l=>l.length<=k):=Rdr.str (bulk H) Tryz.underlying9
theorem rInts:Rdr enc Tryz.prog w Rows.uptoBulk 33 (fun l:List Int=>[sl Z7 l]) (fun k l=>l.length<=k /\ ∀ x∈l,(Lit.int .i64 x).wf=true):=
 Rdr.slice (bulk H) mInt (sz:=1) (enc:=Z7) Tryz.underlying33 (by kernel_rfl) (by decide) (fun _=>rfl) rInt
end Go.Proofs.YtbieeakcnechoaaGreatDoor
end
section
set_option linter.unusedSimpArgs false
set_option linter.unusedVariables false
namespace Go.Proofs.K
open Go Go.Sim Go.Proofs
theorem brNdec {A B:Prop} {p:Prop} [Decidable p] (h1:¬ p->A) (h2:p->B):Br (!decide p) A B .mk:=⟨fun h=>h1 (by simpa using h),fun h=>h2 (by simpa using h)⟩
theorem brNeq {A B:Prop} {α:Type} [BEq α] [LawfulBEq α] {a b:α} (h1:a≠b->A) (h2:a=b->B):Br (!(a==b)) A B .mk:=⟨fun h=>h1 (by simpa using h),fun h=>h2 (by simpa using h)⟩
class BrC (t:Bool) (p q:outParam Prop):Prop where
 pos:t=true->p
 neg:t=false->q
instance (priority:=100) brCi (t:Bool):BrC t (t=true) (t=false):=⟨id,id⟩
instance brCd (p:Prop) [Decidable p]:BrC (decide p) p (¬ p):=⟨fun h=>by simpa using h,fun h=>by simpa using h⟩
instance brCe {α:Type} [BEq α] [LawfulBEq α] (a b:α):BrC (a==b) (a=b) (a≠b):=⟨fun h=>by simpa using h,fun h=>by simpa using h⟩
instance brCn {α:Type} [BEq α] [LawfulBEq α] (a b:α):BrC (a != b) (a≠b) (a=b):=⟨fun h=>by simpa using h,fun h=>by simpa using h⟩
instance brCf (p:Prop) [Decidable p]:BrC (!decide p) (¬ p) p:=⟨fun h=>by simpa using h,fun h=>by simpa using h⟩
instance brCg {α:Type} [BEq α] [LawfulBEq α] (a b:α):BrC (!(a==b)) (a≠b) (a=b):=⟨fun h=>by simpa using h,fun h=>by simpa using h⟩
theorem brC {A B:Prop} {t:Bool} {p q:Prop} [c:BrC t p q] (h1:p->A) (h2:q->B):Br t A B .mk:=⟨fun h=>h1 (c.pos h),fun h=>h2 (c.neg h)⟩
theorem Z8 {ty sz:Nat} {ps:List SX} {e:Env} {h:Z2} {K:AVal->Z2->Prop} {w:Wit K}:Hd (litE ty sz ps e h) K w=(Q5 sz e ps /\ ∀ r,h r=none->K (.osl r sz 0 ps.length) (upd h r (some ⟨ty,sz,ps.map fun x=>cellsOf (ev e x)⟩))):=rfl
theorem U8 {α:Type} [Inhabited α] {l:List α} {k:Nat} (h:k<l.length):nth l k∈l:=List.mem_of_getElem? (K4 h)
theorem mem_nth {α:Type} [Inhabited α] {l:List α} {x:α} (h:x∈l):∃ k,k<l.length/\nth l k=x:=by
 obtain ⟨k,hk⟩:=List.mem_iff_getElem?.1 h
 have hl:=(List.getElem?_eq_some_iff.1 hk).1
 have:=K4 hl
 rw [hk] at this
 exact ⟨k,hl,(Option.some.inj this).symm⟩
theorem ext_nth {α:Type} [Inhabited α] {l m:List α} (hl:l.length=m.length) (h:∀ j,j<l.length->nth l j=nth m j):l=m:=by
 apply List.ext_getElem? 
 intro i
 by_cases hi:i<l.length
 ·rw [K4 hi,K4 (by omega),h i hi]
 ·rw [List.getElem?_eq_none (by omega),List.getElem?_eq_none (by omega)]
theorem KZ {α:Type} [Inhabited α] {l:List α} {j:Nat} (h:j<l.length):l.take (j+1)=l.take j++[nth l j]:=by
 rw [List.take_add_one,K4 h];rfl
def idxM {α:Type} (p:α->Bool) (l:List α):Int:=match l.findIdx? p with | some i=>i | none=>-1
theorem idxM_some {α:Type} [Inhabited α] {p:α->Bool} {l:List α} {k:Nat} (hk:k<l.length) (h1:∀ j,j<k->p (nth l j)=false) (h2:p (nth l k)=true):idxM p l=k:=by
 have hn:∀ j (hj:j<l.length),l[j]=nth l j:=fun j hj=>by have:=K4 hj;rw [List.getElem?_eq_getElem hj] at this;exact Option.some.inj this
 have:l.findIdx? p=some k:=by
  rw [List.findIdx?_eq_some_iff_getElem]
  refine ⟨hk,by rw [hn k hk];exact h2,fun j hj=>?_⟩
  rw [hn j (by omega),h1 j hj];simp
 rw [idxM,this]
theorem idxM_none {α:Type} [Inhabited α] {p:α->Bool} {l:List α} (h1:∀ j,j<l.length->p (nth l j)=false):idxM p l = -1:=by
 have hn:∀ j (hj:j<l.length),l[j]=nth l j:=fun j hj=>by have:=K4 hj;rw [List.getElem?_eq_getElem hj] at this;exact Option.some.inj this
 have:l.findIdx? p=none:=by
  rw [List.findIdx?_eq_none_iff]
  intro x hx
  obtain ⟨j,hj,rfl⟩:=List.getElem_of_mem hx
  rw [hn j hj];exact h1 j hj
 rw [idxM,this]
def lastP {α:Type} (p:α->Bool):List α->Nat
 | []=>0
 | x :: r=>match lastP p r with
   | 0=>if p x then 1 else 0
   | n+1=>n+2
def IsLastP {α:Type} [Inhabited α] (p:α->Bool) (l:List α) (k:Nat):Prop:=k<=l.length/\(k=0\/p (nth l (k-1))=true) /\ ∀ j,k<=j->j<l.length->p (nth l j)=false
theorem lastP_is {α:Type} [Inhabited α] (p:α->Bool) (l:List α):IsLastP p l (lastP p l):=by
 induction l with
 | nil=>exact ⟨by simp [lastP],.inl rfl,fun j _ h=>by simp at h⟩
 | cons x r ih=>
   obtain ⟨h1,h2,h3⟩:=ih
   cases hm:lastP p r with
   | zero=>
     rw [hm] at h3
     by_cases hx:p x=true
     ·simp only [lastP,hm,hx,if_true]
      refine ⟨by simp,.inr (by simpa [nth] using hx),fun j hj hl=>?_⟩
      obtain ⟨j,rfl⟩:∃ i,j=i+1:=⟨j-1,by omega⟩
      exact h3 j (by omega) (by simpa using hl)
     ·simp only [lastP,hm,hx]
      refine ⟨by simp,.inl (by simp),fun j hj hl=>?_⟩
      cases j with
      | zero=>simpa [nth] using hx
      | succ j=>exact h3 j (by omega) (by simpa using hl)
   | succ n=>
     rw [hm] at h1 h2 h3
     simp only [lastP,hm]
     refine ⟨by simp;omega,.inr ?_,fun j hj hl=>?_⟩
     ·rcases h2 with h2 | h2
      ·omega
      ·simpa [nth] using h2
     ·obtain ⟨j,rfl⟩:∃ i,j=i+1:=⟨j-1,by omega⟩
      exact h3 j (by omega) (by simpa using hl)
theorem IsLastP.eq {α:Type} [Inhabited α] {p:α->Bool} {l:List α} {k:Nat} (h:IsLastP p l k):lastP p l=k:=by
 obtain ⟨a1,a2,a3⟩:=lastP_is p l
 obtain ⟨b1,b2,b3⟩:=h
 rcases Nat.lt_trichotomy (lastP p l) k with h | h | h
 ·rcases b2 with b2 | b2
  ·omega
  ·rw [a3 _ (by omega) (by omega)] at b2;cases b2
 ·exact h
 ·rcases a2 with a2 | a2
  ·omega
  ·rw [b3 _ (by omega) (by omega)] at a2;cases a2
theorem u8_all {p:UInt8->Bool} (h:((List.range 256).all fun n=>p (UInt8.ofNat n))=true) (b:UInt8):p b=true:=by
 have:=List.all_eq_true.1 h b.toNat (List.mem_range.2 b.toNat_lt)
 simpa using this
theorem nth_set {α:Type} [Inhabited α] (l:List α) (i j:Nat) (x:α) (hi:i<l.length):nth (l.set i x) j=if j=i then x else nth l j:=by
 unfold nth
 rw [List.getD_eq_getElem?_getD,List.getD_eq_getElem?_getD,List.getElem?_set]
 by_cases h:i=j
 ·subst h;simp [hi]
 ·rw [if_neg h,if_neg (fun e=>h e.symm)]
variable {G:U5}
def firstL:List Int:=(List.range 256).map fun c=>(Lib.firstT c:Int)
def acceptL:List Int:=(List.range 32).map fun i=>if i % 2=0 then (Lib.accLo (i / 2):Int) else Lib.accHi (i / 2)
theorem ofBelow {P:PG} {f:Nat} {ls:List AVal} {r:AVal} (hc:Callable P.p f)
 (h:∀ (g:Ghost) (w:World) (vs:Array Value),GRel P.gl g w->VRelL g w vs ls->Calls P.p f vs w fun e w'=>∃ v,e=.returned v/\RowKit.Below w.heap.size w w' /\ ∀ g' w',VRel g' w' v r):PCalls P f ls r:=
 fun h0=>⟨hc,fun g w vs H GR V=>(h g w vs GR V).mono fun e w' ⟨v,he,hw,hv⟩=>by
  obtain ⟨S,H'⟩:=H.ext (w':=w') (fun b hb=>hw.block b hb) hw.os hw.tape hw.output hw.size
  exact ⟨v,r,h0,g,he,⟨rfl,rfl⟩,H',hv g w',S⟩⟩
end Go.Proofs.K
end
section
set_option linter.unusedSimpArgs false
set_option linter.unusedVariables false
namespace Go.Proofs.YtbieeakcnechoaaGreatDoor
open Go Go.Sim Go.Proofs Go.Proofs.K Go.ChangeShapes Go.WideShapes Go.ChangeAt Go.RowKit Go.Shelf Go.Lib
noncomputable def lay8 (l:List Int):Obj->Obj
 | .cells _ t frozen=>.cells (l.map fun x=>Value.int .u8 x).toArray t frozen
 | o=>o
def cellD:DataW Unit->Value
 | .lit (.int k n)=>.int k n
 | _=>.bool false
def cellsD:DataW Unit->List Value
 | .agg l=>l.map cellD
 | _=>[]
def rowsD:DataW Unit->List (List Value)
 | .slice l _=>l.map cellsD
 | _=>[]
def putC (cs:Array Value):Obj->Obj
 | .cells _ t frozen=>.cells cs t frozen
 | o=>o
noncomputable def laidWorld5 (os:Os):World:=
 let N:=(World.settled Tryz.prog os).heap.size
 let w0:=World.holding Tryz.prog os ⟨#[.cells (rowsD Rows.laid_unicode_caseOrbit).flatten.toArray 194,.cells Lib.caseCells5 221],#[],[]⟩
 { w0 with heap:=((((w0.heap.modify 1 (lay8 firstL)).modify 2 (lay8 acceptL)).modify 3 (putC (cellsD Rows.laid_unicode_asciiFold).toArray)).modify 4 (putC #[.slice (some ⟨N,0,none⟩) (rowsD Rows.laid_unicode_caseOrbit).length (rowsD Rows.laid_unicode_caseOrbit).length])).modify 5 (putC #[.slice (some ⟨N+1,0,none⟩) 336 336]) }
noncomputable def W5 (os:Os) (args:Array Value):World:=((laidWorld5 os).forCall (fun _ _=>0) ⟨#[],args,[]⟩).memory
noncomputable def N5:Nat:=(World.settled Tryz.prog default).heap.size
def cren:Ren:={ Tryz.lays274_ren with g:=fun | 13=>5 | n=>n }
theorem clays:Lays.n274 Tryz.prog cren:={ Tryz.lays274 with }
theorem cextra:CaseExtra Tryz.prog cren:={ n13:=by kernel_rfl,y13:=by kernel_rfl,c21:=by kernel_rfl,c51:=by kernel_rfl,c206:=by kernel_rfl,c208:=by kernel_rfl }
theorem c206u:Tryz.prog.underlying (cren.t 206)=some (.array 3 (cren.t 21)):=by kernel_rfl
theorem piece0 (os : Os) (args : Array Value) : LaidIn Tryz.prog (W5 os args) [("unicode/utf8.acceptRanges", Rows.laid_unicode_utf8_acceptRanges), ("unicode.asciiFold", Rows.laid_unicode_asciiFold), ("unicode.caseOrbit", Rows.laid_unicode_caseOrbit)] [2, 3, 4, N5] :=
 LaidIn.of_run _ 8 (by kernel_rfl) (by kernel_rfl) (by kernel_rfl) (by kernel_rfl)
theorem piece2 (os : Os) (args : Array Value) : LaidIn Tryz.prog (W5 os args) [("unicode/utf8.first", Rows.laid_unicode_utf8_first)] [1] :=
 LaidIn.of_run _ 8 (by kernel_rfl) (by kernel_rfl) (by kernel_rfl) (by kernel_rfl)
theorem w5_var (os:Os) (args:Array Value):(W5 os args).heap[5]? = some (.cells #[.slice (some ⟨N5+1,0,none⟩) caseA.size caseA.size] (cren.t 162) (0,0)):=by kernel_rfl
theorem w5_blk (os:Os) (args:Array Value):(W5 os args).heap[N5+1]? = some (.cells caseCells5 221 (0,0)):=by kernel_rfl
theorem n5_ne:5≠N5+1:=of_decide_eq_true (by kernel_rfl)
theorem piece1 (os : Os) (args : Array Value) : LaidIn Tryz.prog (W5 os args) [("unicode.CaseRanges", Rows.laid_unicode_CaseRanges)] [5, N5 + 1] := by
 have hvar:=w5_var os args
 have hblk:=w5_blk os args
 generalize W5 os args=w at *
 have hT:=caseTab_of_block hblk
 have hread:=case_slice_reads clays c206u cextra hT caseA_wf (by rw [caseA_size];unfold maxLen;omega) 0
 rw [case_rows_data] at hread
 have hd:Rows.laid_unicode_CaseRanges=DataW.slice (caseT.map rowData) []:=Pinned.caseRanges_eq
 rw [hd]
 have hv : w.var? Tryz.prog "unicode.CaseRanges" = some #[.slice (some ⟨N5 + 1, 0, none⟩) caseA.size caseA.size] := by
  have:=cextra.n13
  simp only [World.var?]
  rw [this]
  simp only [Option.bind_some]
  rw [show cren.g 13=5 from rfl,hvar]
 have hf:MemPlace.row ⟨5,0,none⟩ 1++MemPlace.row ⟨N5+1,0,none⟩ (caseA.size*5)=[((⟨5,0,none⟩:Addr),1),(⟨N5+1,0,none⟩,caseA.size*5)].flatMap fun r=>MemPlace.row r.1 r.2:=by simp
 refine LaidIn.one (g:=5) (t:=cren.t 162) (cs:=#[.slice (some ⟨N5+1,0,none⟩) caseA.size caseA.size]) (p:=MemPlace.row ⟨N5+1,0,none⟩ (caseA.size*5)) _ cextra.n13 cextra.y13 hv hread ?_ ?_ ?_
 ·show (MemPlace.row ⟨5,0,none⟩ 1++MemPlace.row ⟨N5+1,0,none⟩ (caseA.size*5)).Nodup
  rw [hf]
  exact rows_nodup _ (by simpa using n5_ne)
 ·intro b off hp
  have hp:MemPlace.cell b off∈MemPlace.row ⟨5,0,none⟩ 1++MemPlace.row ⟨N5+1,0,none⟩ (caseA.size*5):=hp
  rcases List.mem_append.1 hp with hp | hp
  ·obtain ⟨i,hi,e⟩:=MemPlace.mem_row.1 hp
   cases e
   refine ⟨⟨_,_,hvar⟩,fun u v hc=>?_⟩
   obtain rfl:i=0:=by omega
   rw [Lib.cell_of_heap hvar] at hc
   simp at hc
  ·obtain ⟨i,hi,e⟩:=MemPlace.mem_row.1 hp
   cases e
   refine ⟨⟨_,_,hblk⟩,fun u v hc=>?_⟩
   obtain ⟨c0,c1,c2,c3,c4⟩:=hT (i / 5) (by omega)
   have hi5:0+i=0+i / 5*5+i % 5:=by omega
   simp only at hc
   rw [hi5] at hc
   have hm:i % 5<5:=Nat.mod_lt _ (by omega)
   match hk:i % 5,hm with
   | 0,_=>rw [hk] at hc;have q:=c0.symm.trans hc;cases q
   | 1,_=>rw [hk] at hc;have q:=c1.symm.trans hc;cases q
   | 2,_=>rw [hk] at hc;have q:=c2.symm.trans hc;cases q
   | 3,_=>rw [hk] at hc;have q:=c3.symm.trans hc;cases q
   | 4,_=>rw [hk] at hc;have q:=c4.symm.trans hc;cases q
 ·intro x hx
  have hx:x∈MemPlace.row ⟨5,0,none⟩ 1++MemPlace.row ⟨N5+1,0,none⟩ (caseA.size*5):=hx
  rw [hf] at hx
  simpa using rows_block _ x hx
theorem laid5_met (os : Os) (args : Array Value) : laidMet Tryz.prog [("unicode/utf8.acceptRanges", Rows.laid_unicode_utf8_acceptRanges), ("unicode.asciiFold", Rows.laid_unicode_asciiFold), ("unicode.caseOrbit", Rows.laid_unicode_caseOrbit), ("unicode.CaseRanges", Rows.laid_unicode_CaseRanges), ("unicode/utf8.first", Rows.laid_unicode_utf8_first)] (W5 os args) :=
 (((piece0 os args).append (piece1 os args) (by kernel_rfl)).append (piece2 os args) (by kernel_rfl)).met
noncomputable def GT0 (m:Int):U5:=fun b=>if b=0 then .pin [Y0 m] else .dead
theorem GT0_max (m:Int):∃ m',GT0 m 0=.pin [Y0 m']:=⟨m,if_pos rfl⟩
theorem GT0_rel {W:World} (hsh:W.ShapedOpen Tryz.prog):∃ m,GRel (Pg (GT0 m)).gl (Sim.g0 W) W:=by
 obtain ⟨m,hm⟩:=Go.Proofs.cell_of_shapedOpen_int (g:=0) (t:=3) (zero:=#[.int .i64 0]) (k:=.i64) hsh (by decide +kernel) (by kernel_rfl) rfl (by kernel_rfl) (by kernel_rfl) Tryz.underlying3
 refine ⟨m,fun b=>?_⟩
 show Dat (GT0 m b)/\VRel _ _ _ (GT0 m b)
 unfold GT0
 split
 ·rename_i h;subst h;exact ⟨.pin _ (fun c hc=>by simp at hc;subst hc;exact .int _ _),VRel.pinInt hm⟩
 ·exact ⟨.dead,.dead _⟩
end Go.Proofs.YtbieeakcnechoaaGreatDoor
end
section
set_option linter.unusedSimpArgs false
set_option linter.unusedVariables false
namespace Go.Proofs.K
open Go Go.Sim Go.Proofs
variable {G:U5}
structure HAttr where
 name:List UInt8
 value:List UInt8
deriving DecidableEq,Inhabited
def Z5 (a:HAttr):List AVal:=[.str a.name,.str a.value]
instance:LenE Z5 2:=⟨fun _=>rfl⟩
def c19:SFun:=⟨.seq (.reg [o 2 (.mv (.c .emp))]) (.seq (.seq (.reg [o 3 (.mv (.t 0)),o 4 (.isnil 0 false (.t 3))]) (.cond (.t 4) (.seq (.reg [o 2 (.mv (.c .emp))]) .ret) .skip)) (.seq (.reg [o 5 (.bldF 59 2 []),o 6 (.mv (.t 0)),o 7 (.app 59 2 32 (.t 5) (.t 6)),o 2 (.mv (.t 7))]) .ret)),[.tmp 2]⟩
theorem hc19:Y6 Tryz.prog {} Tryz.f19=some c19:=by kernel_rfl
theorem hn19 : (Tryz.f19.name == "runtime.NumGoroutine") = false := by kernel_rfl
theorem cloneA_own {h:Z2} (l:List HAttr) (hl:l.length<=1073741824):DCalls (Pg G) 19 [sl Z5 l] h (AccK h 59 2 (l.map Z5)):=by
 refine Z4 Tryz.func19 hn19 hc19 (by rw [Tryz.ntmps19];simp) (by rw [Tryz.ntmps19];decide) ?_
 simp -dsimp -implicitDefEqProofs (disch:=omega) only [VCA,Z1,↓Q3,Nat.reduceEqDiff,Nat.reduceBEq,Nat.reduceAdd,Nat.reduceSub,Nat.reduceMul,Nat.reduceLT,Nat.reduceLeDiff,↓reduceIte,reduceCtorEq,Z3,Q6,SOp.rd,SI.rd,SX.rd,rdL,rdO,rdP,Q5,Q4,Q1,Q8,Q7,Z0,implies_true,forall_const,forall_eq,ne_eq,exists_eq_right_right,exists_eq_right,exists_eq_left,exists_eq_left',Q9,Z5,Z7,c19]
 intro b hb
 refine Br.intro (fun ht=>?_) (fun hf=>?_)
 ·simp -dsimp -implicitDefEqProofs (disch:=omega) only [VCA,Z1,↓Q3,Nat.reduceEqDiff,Nat.reduceBEq,Nat.reduceAdd,Nat.reduceSub,Nat.reduceMul,Nat.reduceLT,Nat.reduceLeDiff,↓reduceIte,reduceCtorEq,Z3,Q6,SOp.rd,SI.rd,SX.rd,rdL,rdO,rdP,Q5,Q4,Q1,Q8,Q7,Z0,implies_true,forall_const,forall_eq,ne_eq,exists_eq_right_right,exists_eq_right,exists_eq_left,exists_eq_left',Q9,Z5,Z7]
  have:l=[]:=hb (by simpa using ht)
  subst this
  exact ⟨_,Sub.refl _,Acc.nil,Sub.refl _⟩
 ·simp -dsimp -implicitDefEqProofs (disch:=omega) only [VCA,Z1,↓Q3,Nat.reduceEqDiff,Nat.reduceBEq,Nat.reduceAdd,Nat.reduceSub,Nat.reduceMul,Nat.reduceLT,Nat.reduceLeDiff,↓reduceIte,reduceCtorEq,Z3,Q6,SOp.rd,SI.rd,SX.rd,rdL,rdO,rdP,Q5,Q4,Q1,Q8,Q7,Z0,implies_true,forall_const,forall_eq,ne_eq,exists_eq_right_right,exists_eq_right,exists_eq_left,exists_eq_left',Q9,Z5,Z7]
  refine ⟨by omega,by omega,fun r hr=>?_⟩
  exact ⟨_,Sub.refl _,by simpa using Acc.root (cells:=l.map Z5) hr (Z9 _ _ _),(Sub.refl _).upd hr⟩
structure HNode where
 kind:Int
 name:List UInt8
 attrs:List HAttr
 text:List UInt8
 parent:Int
 kids:List Int
deriving DecidableEq,Inhabited
def Z6 (x:HNode):List AVal:=[Y0 x.kind,.str x.name,sl Z5 x.attrs,.str x.text,Y0 x.parent,sl Z7 x.kids]
instance:LenE Z6 6:=⟨fun _=>rfl⟩
structure HDoc where
 nodes:List HNode
 quirks:Bool
deriving DecidableEq,Inhabited
def J9 (d:HDoc):List AVal:=[sl Z6 d.nodes,.bool d.quirks]
instance:LenE J9 2:=⟨fun _=>rfl⟩
def nd (d:HDoc) (n:Int):HNode:=nth d.nodes n.toNat
structure NodeSm (x:HNode):Prop where
 name:x.name.length<=1073741824
 attrs:x.attrs.length<=1073741824
 each:∀ a∈x.attrs,a.name.length<=1073741824/\a.value.length<=1073741824
 text:x.text.length<=1073741824
 kids:x.kids.length<=1073741824
structure DocSm (d:HDoc):Prop where
 len:d.nodes.length<=1073741824
 each:∀ x∈d.nodes,NodeSm x
theorem nodeSm_default:NodeSm default:=⟨by decide,by decide,(fun a ha=>by cases ha),by decide,by decide⟩
theorem nth_def {α:Type} [Inhabited α] {l:List α} {k:Nat} (h:¬ k<l.length):nth l k=default:=by
 unfold nth;rw [List.getD_eq_getElem?_getD,List.getElem?_eq_none (by omega)];rfl
theorem DocSm.nth {d:HDoc} (h:DocSm d) (k:Nat):NodeSm (nth d.nodes k):=by
 by_cases hk:k<d.nodes.length
 ·exact h.each _ (U8 hk)
 ·rw [nth_def hk];exact nodeSm_default
theorem DocSm.nd {d:HDoc} (h:DocSm d) (n:Int):NodeSm (nd d n):=h.nth _
def fe:Nat->(Nat->Int)->Int
 | 0,_=>0
 | n+1,f=>if fe n f≠0 then fe n f else f n
theorem XW {n:Nat} {f:Nat->Int} (h:∀ j,j<n->f j=0):fe n f=0:=by
 induction n with
 | zero=>rfl
 | succ n ih=>unfold fe;rw [if_neg (by rw [ih fun j hj=>h j (by omega)];simp)];exact h n (by omega)
theorem fe_some {n k:Nat} {f:Nat->Int} (hk:k<n) (h1:∀ j,j<k->f j=0) (h2:f k≠0):fe n f=f k:=by
 induction n with
 | zero=>omega
 | succ n ih=>
   unfold fe
   by_cases hkn:k=n
   ·subst hkn;rw [if_neg (by rw [XW h1];simp)]
   ·have:=ih (by omega);rw [this,if_pos h2]
theorem fe_zero {n:Nat} {f:Nat->Int} (h:fe n f=0):∀ j,j<n->f j=0:=by
 induction n with
 | zero=>intro j hj;omega
 | succ n ih=>
   unfold fe at h
   split at h
   ·rename_i h1;exact absurd h h1
   ·rename_i h1
    have h1:fe n f=0:=by simpa using h1
    intro j hj
    by_cases hjn:j=n
    ·subst hjn;exact h
    ·exact ih h1 j (by omega)
theorem fe_iff {n:Nat} {f:Nat->Int}:fe n f=0 ↔ ∀ j,j<n->f j=0:=⟨fe_zero,XW⟩
def signB (b:UInt8):Bool:=(decide (97<=b.toNat)&&decide (b.toNat<=122))||((decide (48<=b.toNat)&&decide (b.toNat<=57))||(b==45||(b==95||b==58)))
def firstB (element:Bool) (b:UInt8):Bool:=(decide (97<=b.toNat)&&decide (b.toNat<=122))||(!element&&(b==45||b==95))
def YW (element:Bool) (s:List UInt8):Bool:=decide (1<=s.length)&&(decide (s.length<=40)&&(firstB element (s.getD 0 0)&&s.all signB))
def attrAt (l:List HAttr) (name:List UInt8):Int:=idxM (fun a=>a.name==name) l
def attrE (l:List HAttr) (i:Nat):Int:=
 if YW false (nth l i).name=false then 3 else if 400<(nth l i).value.length then 2 else if 0<=attrAt (l.take i) (nth l i).name then 3 else 0
def attrsE (l:List HAttr):Int:=if 12<l.length then 2 else fe l.length (attrE l)
def bareM (x:HNode):Bool:=
 (decide (x.kind=2)||decide (x.kind=5)||decide (x.name=[]))&&(decide (x.kind=2)||decide (x.attrs=[]))&&(decide (x.kind=3)||decide (x.kind=4)||decide (x.text=[]))&&(decide (x.kind=1)||decide (x.kind=2)||decide (x.kids=[]))
def nodeE (x:HNode):Int:=
 if x.kind<1\/5<x.kind\/bareM x=false then 7 else if x.kind=2/\YW true x.name=false then 3
 else if attrsE x.attrs≠0 then attrsE x.attrs else if 400<x.text.length\/400<x.name.length then 2 else 0
def inD (d:HDoc) (n:Int):Prop:=0<=n/\n<d.nodes.length
instance (d:HDoc) (n:Int):Decidable (inD d n):=by unfold inD;infer_instance
def headE (d:HDoc) (i:Nat):Int:=if ¬ ((nth d.nodes i).kind=1↔i=0) then 3 else nodeE (nth d.nodes i)
def kidE (d:HDoc) (i k:Nat):Int:=
 let kid:=nth (nth d.nodes i).kids k
 if ¬ inD d kid\/(nd d kid).parent≠i\/kid∈(nth d.nodes i).kids.take k then 3 else if i=0/\(nd d kid).kind=3 then 7 else 0
def WY (d:HDoc) (i:Nat):Int:=fe (nth d.nodes i).kids.length (kidE d i)
def parE (d:HDoc) (i:Nat):Int:=
 let p:=(nth d.nodes i).parent
 if p ≠ -1/\(¬ inD d p\/(i:Int)∉(nd d p).kids) then 3 else 0
def upF:Nat->HDoc->Int->Nat
 | 0,_,_=>0
 | f+1,d,n=>if 0<=(nd d n).parent then upF f d (nd d n).parent+1 else 0
def up (d:HDoc) (n:Int):Nat:=upF (d.nodes.length+1) d n
def deepE (d:HDoc) (i:Nat):Int:=if d.nodes.length<up d i then 8 else if 40<up d i then 2 else 0
def docE (d:HDoc):Int:=
 if 200<d.nodes.length then 2 else if d.nodes.length=0 then 3
 else if fe d.nodes.length (headE d)≠0 then fe d.nodes.length (headE d)
 else if fe d.nodes.length (WY d)≠0 then fe d.nodes.length (WY d)
 else if fe d.nodes.length (parE d)≠0 then fe d.nodes.length (parE d)
 else if (nd d 0).parent ≠ -1 then 3
 else fe d.nodes.length (deepE d)
end Go.Proofs.K
end
section
set_option linter.unusedSimpArgs false
set_option linter.unusedVariables false
namespace Go.Proofs.YtbieeakcnechoaaGreatDoor
open Go Go.Sim Go.Proofs Go.Proofs.K Go.ChangeShapes Go.WideShapes Go.ChangeAt Go.RowKit
variable {H:Type} {enc:TypeId×Value->H} {w:World}
def goodA (k:Nat) (x:HAttr):Prop:=x.name.length<=k/\x.value.length<=k
theorem mA:Mono goodA:=fun _ _ _ h1 h2=>⟨Nat.le_trans h2.1 h1,Nat.le_trans h2.2 h1⟩
theorem rAttr:Rdr enc Tryz.prog w Rows.uptoBulk 59 Z5 goodA:=by
 have hB:=bulk H
 have r:=Rdr.struct (eh:=enc) (w:=w) hB Tryz.underlying59 (by kernel_rfl) (.cons (sz:=1) rfl (by kernel_rfl) mStr rStr (.cons (sz:=1) rfl (by kernel_rfl) mStr rStr (.nil _)))
 exact r.map (fun p=>⟨p.1,p.2.1⟩) (fun _=>rfl) (fun _ _ h=>⟨h.1,h.2.1⟩)
def goodN (k:Nat) (x:HNode):Prop:=x.name.length<=k/\(x.attrs.length<=k /\ ∀ a∈x.attrs,goodA k a)/\x.text.length<=k/\x.kids.length<=k
theorem mN:Mono goodN:=fun _ _ _ h1 h2=>⟨Nat.le_trans h2.1 h1,⟨Nat.le_trans h2.2.1.1 h1,fun a ha=>mA _ _ _ h1 (h2.2.1.2 a ha)⟩,Nat.le_trans h2.2.2.1 h1,Nat.le_trans h2.2.2.2 h1⟩
theorem rNode:Rdr enc Tryz.prog w Rows.uptoBulk 35 Z6 goodN:=by
 have hB:=bulk H
 have ra:=Rdr.slice (eh:=enc) (w:=w) hB mA (sz:=2) (enc:=Z5) Tryz.underlying32 (by kernel_rfl) (by decide) (fun _=>rfl) (rAttr (H:=H))
 have r:=Rdr.struct (eh:=enc) (w:=w) hB Tryz.underlying35 (by kernel_rfl) (.cons (sz:=1) rfl (by kernel_rfl) mInt rInt (.cons (sz:=1) rfl (by kernel_rfl) mStr rStr
  (.cons (sz:=1) rfl (by kernel_rfl) (fun _ _ _ h1 h2=>⟨Nat.le_trans h2.1 h1,fun a ha=>mA _ _ _ h1 (h2.2 a ha)⟩) ra (.cons (sz:=1) rfl (by kernel_rfl) mStr rStr (.cons (sz:=1) rfl (by kernel_rfl) mInt rInt
  (.cons (sz:=1) rfl (by kernel_rfl) (fun _ _ _ h1 h2=>⟨Nat.le_trans h2.1 h1,h2.2⟩) rInts (.nil _)))))))
 exact r.map (fun p=>⟨p.1,p.2.1,p.2.2.1,p.2.2.2.1,p.2.2.2.2.1,p.2.2.2.2.2.1⟩) (fun _=>rfl) (fun _ _ h=>⟨h.2.1,h.2.2.1,h.2.2.2.1,h.2.2.2.2.2.1.1⟩)
def goodD (k:Nat) (x:HDoc):Prop:=x.nodes.length<=k /\ ∀ n∈x.nodes,goodN k n
theorem rDoc:Rdr enc Tryz.prog w Rows.uptoBulk 24 J9 goodD:=by
 have hB:=bulk H
 have ra:=Rdr.slice (eh:=enc) (w:=w) hB mN (sz:=6) (enc:=Z6) Tryz.underlying22 (by kernel_rfl) (by decide) (fun _=>rfl) (rNode (H:=H))
 have r:=Rdr.struct (eh:=enc) (w:=w) hB Tryz.underlying24 (by kernel_rfl) (.cons (sz:=1) rfl (by kernel_rfl) (fun _ _ _ h1 h2=>⟨Nat.le_trans h2.1 h1,fun a ha=>mN _ _ _ h1 (h2.2 a ha)⟩) ra (.cons (sz:=1) rfl (by kernel_rfl) (fun _ _ _ _ _=>trivial) rBool (.nil _)))
 exact r.map (fun p=>⟨p.1,p.2.1⟩) (fun _=>rfl) (fun _ _ h=>h.1)
theorem docSm_of {k:Nat} {d:HDoc} (hk:k<=1073741824) (g:goodD k d):DocSm d:=
 ⟨Nat.le_trans g.1 hk,fun x hx=>by
   obtain ⟨g1,⟨g2,g3⟩,g4,g5⟩:=g.2 x hx
   exact ⟨Nat.le_trans g1 hk,Nat.le_trans g2 hk,fun a ha=>⟨Nat.le_trans (g3 a ha).1 hk,Nat.le_trans (g3 a ha).2 hk⟩,Nat.le_trans g4 hk,Nat.le_trans g5 hk⟩⟩
end Go.Proofs.YtbieeakcnechoaaGreatDoor
end
section
set_option linter.unusedSimpArgs false
set_option linter.unusedVariables false
namespace Go.Proofs.K
open Go Go.Sim Go.Proofs
variable {G:U5}
def c20:SFun:=⟨.seq (.reg [o 2 (.mv (.c .emp))]) (.seq (.seq (.reg [o 3 (.mv (.t 0)),o 4 (.isnil 0 false (.t 3))]) (.cond (.t 4) (.seq (.reg [o 2 (.mv (.c .emp))]) .ret) .skip)) (.seq (.reg [o 5 (.bldF 3 1 []),o 6 (.mv (.t 0)),o 7 (.app 3 1 8 (.t 5) (.t 6)),o 2 (.mv (.t 7))]) .ret)),[.tmp 2]⟩
theorem hc20:Y6 Tryz.prog {} Tryz.f20=some c20:=by kernel_rfl
theorem cloneZ_own {h:Z2} (l:List Int) (hl:l.length<=1073741824):DCalls (Pg G) 20 [sl Z7 l] h (AccK h 3 1 (l.map Z7)):=by
 refine Z4 Tryz.func20 (by kernel_rfl) hc20 (by rw [Tryz.ntmps20];simp) (by rw [Tryz.ntmps20];decide) ?_
 simp -dsimp -implicitDefEqProofs (disch:=omega) only [VCA,Z1,↓Q3,Nat.reduceEqDiff,Nat.reduceBEq,Nat.reduceAdd,Nat.reduceSub,Nat.reduceMul,Nat.reduceLT,Nat.reduceLeDiff,↓reduceIte,reduceCtorEq,Z3,Q6,SOp.rd,SI.rd,SX.rd,rdL,rdO,rdP,Q5,Q4,Q1,Q8,Q7,Z0,implies_true,forall_const,forall_eq,ne_eq,exists_eq_right_right,exists_eq_right,exists_eq_left,exists_eq_left',Q9,Z7,Z8,c20]
 intro b hb
 refine Br.intro (fun ht=>?_) (fun hf=>?_)
 ·simp -dsimp -implicitDefEqProofs (disch:=omega) only [VCA,Z1,↓Q3,Nat.reduceEqDiff,Nat.reduceBEq,Nat.reduceAdd,Nat.reduceSub,Nat.reduceMul,Nat.reduceLT,Nat.reduceLeDiff,↓reduceIte,reduceCtorEq,Z3,Q6,SOp.rd,SI.rd,SX.rd,rdL,rdO,rdP,Q5,Q4,Q1,Q8,Q7,Z0,implies_true,forall_const,forall_eq,ne_eq,exists_eq_right_right,exists_eq_right,exists_eq_left,exists_eq_left',Q9,Z7,Z8]
  have:l=[]:=hb (by simpa using ht)
  subst this
  exact ⟨_,Sub.refl _,Acc.nil,Sub.refl _⟩
 ·simp -dsimp -implicitDefEqProofs (disch:=omega) only [VCA,Z1,↓Q3,Nat.reduceEqDiff,Nat.reduceBEq,Nat.reduceAdd,Nat.reduceSub,Nat.reduceMul,Nat.reduceLT,Nat.reduceLeDiff,↓reduceIte,reduceCtorEq,Z3,Q6,SOp.rd,SI.rd,SX.rd,rdL,rdO,rdP,Q5,Q4,Q1,Q8,Q7,Z0,implies_true,forall_const,forall_eq,ne_eq,exists_eq_right_right,exists_eq_right,exists_eq_left,exists_eq_left',Q9,Z7,Z8]
  refine ⟨by omega,by omega,fun r hr=>?_⟩
  exact ⟨_,Sub.refl _,by simpa using Acc.root (cells:=l.map Z7) hr (Z9 _ _ _),(Sub.refl _).upd hr⟩
theorem nd_nat (d:HDoc) (i:Nat):nd d (i:Int)=nth d.nodes i:=by simp [nd]
theorem inD_nat {d:HDoc} {i:Nat}:inD d (i:Int)↔i<d.nodes.length:=by unfold inD;omega
theorem inD.nat {d:HDoc} {n:Int} (h:inD d n):n.toNat<d.nodes.length/\(n.toNat:Int)=n:=by unfold inD at h;omega
theorem nodup_of_take {α:Type} [Inhabited α] {l:List α} (h:∀ k,k<l.length->nth l k∉l.take k):l.Nodup:=by
 rw [List.Nodup,List.pairwise_iff_getElem]
 intro i j hi hj hij heq
 have hn:∀ j (hj:j<l.length),l[j]=nth l j:=fun j hj=>by have:=K4 hj;rw [List.getElem?_eq_getElem hj] at this;exact Option.some.inj this
 refine h j hj ?_
 rw [<-hn j hj,<-heq,List.mem_take_iff_getElem]
 exact ⟨i,by omega,rfl⟩
theorem take_of_nodup {α:Type} [Inhabited α] {l:List α} (h:l.Nodup) {k:Nat} (hk:k<l.length):nth l k∉l.take k:=by
 intro hm
 have hn:∀ j (hj:j<l.length),l[j]=nth l j:=fun j hj=>by have:=K4 hj;rw [List.getElem?_eq_getElem hj] at this;exact Option.some.inj this
 rw [List.mem_take_iff_getElem] at hm
 obtain ⟨i,hi,he⟩:=hm
 rw [List.Nodup,List.pairwise_iff_getElem] at h
 rw [<-hn k hk] at he
 exact h i k (by omega) hk (by omega) he
theorem upF_mono {d:HDoc}:∀ {f:Nat} {n:Int} {g:Nat},upF f d n<f->f<=g->upF g d n=upF f d n
 | 0,n,g,h,_=>by omega
 | f+1,n,0,_,h=>by omega
 | f+1,n,g+1,h,hg=>by
   unfold upF at h ⊢
   split
   ·rename_i hp
    rw [if_pos hp] at h
    rw [upF_mono (f:=f) (by omega) (by omega)]
   ·rfl
structure DV (d:HDoc):Prop where
 pos:0<d.nodes.length
 len:d.nodes.length<=200
 kind:∀ n,inD d n->((nd d n).kind=1↔n=0)
 node:∀ n,inD d n->nodeE (nd d n)=0
 kid:∀ n,inD d n -> ∀ k∈(nd d n).kids,inD d k/\(nd d k).parent=n
 nodup:∀ n,inD d n->(nd d n).kids.Nodup
 top:∀ k∈(nd d 0).kids,(nd d k).kind≠3
 par:∀ n,inD d n->(nd d n).parent = -1\/(inD d (nd d n).parent/\n∈(nd d (nd d n).parent).kids)
 root:(nd d 0).parent = -1
 fin:∀ n,inD d n->up d n<=d.nodes.length
 deep:∀ n,inD d n->up d n<=40
theorem YY (d:HDoc):docE d=0↔DV d:=by
 have all:∀ {p:Int->Prop},(∀ n,inD d n->p n) ↔ ∀ i:Nat,i<d.nodes.length->p i:=fun {p}=>
  ⟨fun h i hi=>h i (inD_nat.2 hi),fun h n hn=>by have:=h n.toNat hn.nat.1;rwa [hn.nat.2] at this⟩
 have h1:fe d.nodes.length (headE d)=0 ↔ ∀ n,inD d n->((nd d n).kind=1↔n=0)/\nodeE (nd d n)=0:=by
  rw [fe_iff,all]
  refine forall_congr' fun i=>imp_congr_right fun hi=>?_
  unfold headE
  rw [nd_nat]
  by_cases hc:(nth d.nodes i).kind=1↔i=0
  ·rw [if_neg (by simpa using hc)]
   exact ⟨fun h=>⟨hc.trans (by omega),h⟩,fun h=>h.2⟩
  ·rw [if_pos hc]
   exact ⟨fun h=>by omega,fun h=>absurd (h.1.trans (by omega)) hc⟩
 have h2:fe d.nodes.length (WY d)=0↔(∀ n,inD d n->(∀ k∈(nd d n).kids,inD d k/\(nd d k).parent=n)/\(nd d n).kids.Nodup)/\(0<d.nodes.length -> ∀ k∈(nd d 0).kids,(nd d k).kind≠3):=by
  rw [fe_iff,all]
  constructor
  ·intro h
   refine ⟨fun i hi=>?_,fun h0 k hk=>?_⟩
   ·have hi':=fe_zero (h i hi)
    rw [nd_nat]
    refine ⟨fun k hk=>?_,nodup_of_take fun k hk=>?_⟩
    ·obtain ⟨j,hj,rfl⟩:=mem_nth hk
     have:=hi' j hj
     unfold kidE at this
     simp only at this
     split at this
     ·omega
     ·rename_i hn
      simp only [not_or,Classical.not_not] at hn
      exact ⟨hn.1,hn.2.1⟩
    ·have:=hi' k hk
     unfold kidE at this
     simp only at this
     split at this
     ·omega
     ·rename_i hn
      simp only [not_or] at hn
      exact hn.2.2
   ·have hi':=fe_zero (h 0 h0)
    have e0:nd d 0=nth d.nodes 0:=nd_nat d 0
    rw [e0] at hk
    obtain ⟨j,hj,rfl⟩:=mem_nth hk
    have:=hi' j hj
    unfold kidE at this
    simp only at this
    split at this
    ·omega
    ·split at this
     ·omega
     ·rename_i hn
      intro hh
      exact hn (by simpa using hh)
  ·intro ⟨h,ht⟩ i hi
   refine XW fun k hk=>?_
   have hi':=h i hi
   rw [nd_nat] at hi'
   have hm:=U8 hk
   unfold kidE
   simp only
   rw [if_neg,if_neg]
   ·rintro ⟨rfl,hh⟩
    exact ht (by omega) _ (by rw [show nd d 0=nth d.nodes 0 from nd_nat d 0];exact hm) hh
   ·simp only [not_or,Classical.not_not]
    exact ⟨(hi'.1 _ hm).1,(hi'.1 _ hm).2,take_of_nodup hi'.2 hk⟩
 have h3:fe d.nodes.length (parE d)=0 ↔ ∀ n,inD d n->(nd d n).parent = -1\/(inD d (nd d n).parent/\n∈(nd d (nd d n).parent).kids):=by
  rw [fe_iff,all]
  refine forall_congr' fun i=>imp_congr_right fun hi=>?_
  unfold parE
  simp only
  rw [nd_nat]
  by_cases hp:(nth d.nodes i).parent = -1
  ·rw [if_neg (by simp [hp])];simp [hp]
  ·by_cases hq:inD d (nth d.nodes i).parent/\(i:Int)∈(nd d (nth d.nodes i).parent).kids
   ·rw [if_neg (by rintro ⟨_,hh⟩;exact hh.elim (fun h=>h hq.1) (fun h=>h hq.2))]
    exact ⟨fun _=>.inr hq,fun _=>rfl⟩
   ·rw [if_pos ⟨hp,by rw [<-Classical.not_and_iff_not_or_not];exact hq⟩]
    exact ⟨fun h=>by omega,fun h=>absurd (h.resolve_left hp) hq⟩
 have h4:fe d.nodes.length (deepE d)=0 ↔ ∀ n,inD d n->up d n<=d.nodes.length/\up d n<=40:=by
  rw [fe_iff,all]
  refine forall_congr' fun i=>imp_congr_right fun hi=>?_
  unfold deepE
  split
  ·omega
  ·split <;> omega
 constructor
 ·intro h
  unfold docE at h
  split at h
  ·omega
  ·split at h
   ·omega
   ·split at h
    ·contradiction
    ·split at h
     ·contradiction
     ·split at h
      ·contradiction
      ·split at h
       ·omega
       ·rename_i g1 g2 g3 g4 g5 g6
        simp only [ne_eq,Classical.not_not] at g3 g4 g5 g6
        have k1:=h1.1 g3
        have k2:=h2.1 g4
        have k3:=h3.1 g5
        have k4:=h4.1 h
        exact ⟨by omega,by omega,fun n hn=>(k1 n hn).1,fun n hn=>(k1 n hn).2,fun n hn=>(k2.1 n hn).1,fun n hn=>(k2.1 n hn).2,k2.2 (by omega),k3,g6,fun n hn=>(k4 n hn).1,fun n hn=>(k4 n hn).2⟩
 ·intro V
  have hl:=V.len
  have hp:=V.pos
  unfold docE
  rw [if_neg (by omega),if_neg (by omega),if_neg,if_neg,if_neg,if_neg (by simp [V.root])]
  ·exact h4.2 fun n hn=>⟨V.fin n hn,V.deep n hn⟩
  ·simp only [ne_eq,Classical.not_not];exact h3.2 V.par
  ·simp only [ne_eq,Classical.not_not];exact h2.2 ⟨fun n hn=>⟨V.kid n hn,V.nodup n hn⟩,fun _=>V.top⟩
  ·simp only [ne_eq,Classical.not_not];exact h1.2 fun n hn=>⟨V.kind n hn,V.node n hn⟩
section
variable {d:HDoc}
theorem DV.par_in (V:DV d) {n:Int} (hn:inD d n) (hp:0<=(nd d n).parent):inD d (nd d n).parent/\n∈(nd d (nd d n).parent).kids:=by
 rcases V.par n hn with h | h
 ·omega
 ·exact h
theorem DV.up_par (V:DV d) {n:Int} (hn:inD d n) (hp:0<=(nd d n).parent):up d n=up d (nd d n).parent+1:=by
 have h1:up d n=upF d.nodes.length d (nd d n).parent+1:=by
  unfold up;conv=>lhs;unfold upF
  rw [if_pos hp]
 have h2:=V.fin n hn
 have h3:up d (nd d n).parent=upF d.nodes.length d (nd d n).parent:=upF_mono (f:=d.nodes.length) (by omega) (by omega)
 rw [h1,h3]
theorem DV.up_top (V:DV d) {n:Int} (hp:¬ 0<=(nd d n).parent):up d n=0:=by unfold up upF;rw [if_neg hp]
theorem DV.up_kid (V:DV d) {n k:Int} (hn:inD d n) (hk:k∈(nd d n).kids):up d k=up d n+1:=by
 obtain ⟨h1,h2⟩:=V.kid n hn k hk
 have:=V.up_par h1 (by rw [h2];exact hn.1)
 rwa [h2] at this
theorem DV.up_lt (V:DV d) {n k:Int} (hn:inD d n) (hk:k∈(nd d n).kids):up d n<40:=by
 have:=V.up_kid hn hk
 have:=V.deep k (V.kid n hn k hk).1
 omega
theorem DV.down (V:DV d) {p:Int->Prop} (h:∀ n,inD d n->(∀ k∈(nd d n).kids,p k)->p n):∀ n,inD d n->p n:=by
 have:∀ m n,inD d n->40<=m+up d n->p n:=by
  intro m
  induction m with
  | zero=>intro n hn hm;exact h n hn fun k hk=>by have:=V.up_lt hn hk;omega
  | succ m ih=>intro n hn hm;exact h n hn fun k hk=>ih k (V.kid n hn k hk).1 (by have:=V.up_kid hn hk;omega)
 exact fun n hn=>this 40 n hn (by omega)
theorem DV.rise (V:DV d) {p:Int->Prop} (h:∀ n,inD d n->(0<=(nd d n).parent->p (nd d n).parent)->p n):∀ n,inD d n->p n:=by
 have:∀ m n,inD d n->up d n<=m->p n:=by
  intro m
  induction m with
  | zero=>intro n hn hm;exact h n hn fun hp=>by have:=V.up_par hn hp;omega
  | succ m ih=>intro n hn hm;exact h n hn fun hp=>ih _ (V.par_in hn hp).1 (by have:=V.up_par hn hp;omega)
 exact fun n hn=>this _ n hn (Nat.le_refl _)
def belF:Nat->HDoc->Int->List Int
 | 0,_,n=>[n]
 | f+1,d,n=>n :: (nd d n).kids.flatMap (belF f d)
def J8 (d:HDoc) (n:Int):List Int:=belF 40 d n
theorem W6 {α β:Type} {l:List α} {f g:α->List β} (h:∀ x∈l,f x=g x):l.flatMap f=l.flatMap g:=by
 induction l with
 | nil=>rfl
 | cons x r ih=>rw [List.flatMap_cons,List.flatMap_cons,h x List.mem_cons_self,ih fun y hy=>h y (List.mem_cons_of_mem _ hy)]
theorem belF_eq (V:DV d):∀ (f g:Nat) (n:Int),inD d n->40<=f+up d n->40<=g+up d n->belF f d n=belF g d n
 | 0,0,_,_,_,_=>rfl
 | 0,g+1,n,hn,hf,_=>by
   have:(nd d n).kids=[]:=List.eq_nil_iff_forall_not_mem.2 fun k hk=>by have:=V.up_lt hn hk;omega
   simp [belF,this]
 | f+1,0,n,hn,_,hg=>by
   have:(nd d n).kids=[]:=List.eq_nil_iff_forall_not_mem.2 fun k hk=>by have:=V.up_lt hn hk;omega
   simp [belF,this]
 | f+1,g+1,n,hn,hf,hg=>by
   unfold belF
   rw [W6 fun k hk=>belF_eq V f g k (V.kid n hn k hk).1 (by have:=V.up_kid hn hk;omega) (by have:=V.up_kid hn hk;omega)]
theorem V9 (V:DV d) {n:Int} (hn:inD d n):J8 d n=n :: (nd d n).kids.flatMap (J8 d):=by
 have:J8 d n=n :: (nd d n).kids.flatMap (belF 39 d):=rfl
 rw [this,W6 fun k hk=>belF_eq V 39 40 k (V.kid n hn k hk).1 (by have:=V.up_kid hn hk;omega) (by omega)]
 rfl
theorem YZ (V:DV d):∀ n,inD d n -> ∀ m∈J8 d n,inD d m:=V.down fun n hn ih m hm=>by
 rw [V9 V hn] at hm
 rcases List.mem_cons.1 hm with rfl | hm
 ·exact hn
 ·obtain ⟨k,hk,hm⟩:=List.mem_flatMap.1 hm
  exact ih k hk m hm
theorem TK (V:DV d) {n:Int} (hn:inD d n):n∈J8 d n:=by rw [V9 V hn];exact List.mem_cons_self
def chF:Nat->HDoc->Int->List Int
 | 0,_,n=>[n]
 | f+1,d,n=>if 0<=(nd d n).parent then n :: chF f d (nd d n).parent else [n]
def ZU (d:HDoc) (n:Int):List Int:=chF 40 d n
theorem chF_eq (V:DV d):∀ (f g:Nat) (n:Int),inD d n->up d n<=f->up d n<=g->chF f d n=chF g d n
 | 0,0,_,_,_,_=>rfl
 | 0,g+1,n,hn,hf,_=>by
   have:¬ 0<=(nd d n).parent:=fun hp=>by have:=V.up_par hn hp;omega
   simp [chF,this]
 | f+1,0,n,hn,_,hg=>by
   have:¬ 0<=(nd d n).parent:=fun hp=>by have:=V.up_par hn hp;omega
   simp [chF,this]
 | f+1,g+1,n,hn,hf,hg=>by
   unfold chF
   split
   ·rename_i hp
    rw [chF_eq V f g _ (V.par_in hn hp).1 (by have:=V.up_par hn hp;omega) (by have:=V.up_par hn hp;omega)]
   ·rfl
theorem ZQ (V:DV d) {n:Int} (hn:inD d n) (hp:0<=(nd d n).parent):ZU d n=n :: ZU d (nd d n).parent:=by
 have:ZU d n=n :: chF 39 d (nd d n).parent:=by
  have e:∀ f,chF (f+1) d n=n :: chF f d (nd d n).parent:=fun f=>by rw [chF,if_pos hp]
  exact e 39
 rw [this,chF_eq V 39 40 _ (V.par_in hn hp).1 (by have:=V.up_par hn hp;have:=V.deep n hn;omega) (V.deep _ (V.par_in hn hp).1)]
 rfl
theorem JK (V:DV d) {n:Int} (hp:¬ 0<=(nd d n).parent):ZU d n=[n]:=by
 have e:∀ f,chF (f+1) d n=[n]:=fun f=>by rw [chF,if_neg hp]
 exact e 39
theorem TW (d:HDoc) (n:Int):n∈ZU d n:=by show n∈chF 40 d n;unfold chF;split <;> simp
theorem chain_len (V:DV d):∀ n,inD d n->(ZU d n).length=up d n+1:=V.rise fun n hn ih=>by
 by_cases hp:0<=(nd d n).parent
 ·rw [ZQ V hn hp,List.length_cons,ih hp,V.up_par hn hp]
 ·rw [JK V hp,V.up_top hp];rfl
theorem chain_le (V:DV d):∀ n,inD d n -> ∀ m∈ZU d n,up d m<=up d n/\(up d m=up d n->m=n):=V.rise fun n hn ih m hm=>by
 by_cases hp:0<=(nd d n).parent
 ·rw [ZQ V hn hp] at hm
  rcases List.mem_cons.1 hm with rfl | hm
  ·exact ⟨Nat.le_refl _,fun _=>rfl⟩
  ·have:=ih hp m hm
   have:=V.up_par hn hp
   exact ⟨by omega,fun h=>by omega⟩
 ·rw [JK V hp] at hm;simp at hm;subst hm;exact ⟨Nat.le_refl _,fun _=>rfl⟩
theorem chain_one (V:DV d):∀ n,inD d n -> ∀ a∈ZU d n,∀ b∈ZU d n,up d a=up d b->a=b:=V.rise fun n hn ih a ha b hb hab=>by
 by_cases hp:0<=(nd d n).parent
 ·have hu:=V.up_par hn hp
  rw [ZQ V hn hp] at ha hb
  have hle:=fun m hm=>(chain_le V _ (V.par_in hn hp).1 m hm).1
  rcases List.mem_cons.1 ha with rfl | ha <;> rcases List.mem_cons.1 hb with rfl | hb
  ·rfl
  ·have:=hle b hb;omega
  ·have:=hle a ha;omega
  ·exact ih hp a ha b hb hab
 ·rw [JK V hp] at ha hb;simp at ha hb;rw [ha,hb]
theorem chain_trans (V:DV d):∀ n,inD d n -> ∀ m∈ZU d n,∀ t∈ZU d m,t∈ZU d n:=V.rise fun n hn ih m hm t ht=>by
 by_cases hp:0<=(nd d n).parent
 ·rw [ZQ V hn hp] at hm ⊢
  rcases List.mem_cons.1 hm with rfl | hm
  ·rw [<-ZQ V hn hp];exact ht
  ·exact List.mem_cons_of_mem _ (ih hp m hm t ht)
 ·rw [JK V hp] at hm;simp at hm;subst hm;exact ht
theorem JT (V:DV d) {m n:Int} (hm:inD d m) (hn:inD d n):m∈J8 d n↔n∈ZU d m:=by
 constructor
 ·revert m hm
  refine V.down (p:=fun n=>∀ {m},inD d m->m∈J8 d n->n∈ZU d m) (fun n hn ih m hm h=>?_) n hn
  rw [V9 V hn] at h
  rcases List.mem_cons.1 h with rfl | h
  ·exact TW _ _
  ·obtain ⟨k,hk,h⟩:=List.mem_flatMap.1 h
   have h1:=ih k hk hm h
   have h2:=V.kid n hn k hk
   refine chain_trans V m hm k h1 n ?_
   rw [ZQ V h2.1 (by rw [h2.2];exact hn.1),h2.2]
   exact List.mem_cons_of_mem _ (TW _ _)
 ·revert n hn
  refine V.rise (p:=fun m=>∀ {n},inD d n->n∈ZU d m->m∈J8 d n) (fun m hm ih n hn h=>?_) m hm
  by_cases hp:0<=(nd d m).parent
  ·rw [ZQ V hm hp] at h
   rcases List.mem_cons.1 h with rfl | h
   ·exact TK V hm
   ·have h1:=ih hp hn h
    obtain ⟨h2,h3⟩:=V.par_in hm hp
    generalize (nd d m).parent=q at *
    clear ih hp
    revert h1
    refine V.down (p:=fun n=>q∈J8 d n->m∈J8 d n) (fun n hn ih h1=>?_) n hn
    rw [V9 V hn] at h1 ⊢
    rcases List.mem_cons.1 h1 with rfl | h1
    ·exact List.mem_cons_of_mem _ (List.mem_flatMap.2 ⟨m,h3,TK V hm⟩)
    ·obtain ⟨k,hk,h1⟩:=List.mem_flatMap.1 h1
     exact List.mem_cons_of_mem _ (List.mem_flatMap.2 ⟨k,hk,ih k hk h1⟩)
  ·rw [JK V hp] at h;simp at h;subst h;exact TK V hm
theorem U2 (V:DV d):∀ n,inD d n->(J8 d n).Nodup:=V.down fun n hn ih=>by
 rw [V9 V hn,List.nodup_cons]
 constructor
 ·intro hm
  obtain ⟨k,hk,hm⟩:=List.mem_flatMap.1 hm
  have h1:=(JT V hn (V.kid n hn k hk).1).1 hm
  have:=(chain_le V n hn k h1).1
  have:=V.up_kid hn hk
  omega
 ·rw [List.nodup_iff_pairwise_ne,List.pairwise_flatMap]
  refine ⟨fun k hk=>List.nodup_iff_pairwise_ne.1 (ih k hk),?_⟩
  have:=V.nodup n hn
  rw [List.nodup_iff_pairwise_ne] at this
  refine this.imp_of_mem fun {a b} ha hb hab x hx y hy hxy=>?_
  subst hxy
  have ia:=(V.kid n hn a ha).1
  have ib:=(V.kid n hn b hb).1
  have ix:=YZ V a ia x hx
  exact hab (chain_one V x ix a ((JT V ix ia).1 hx) b ((JT V ix ib).1 hy) (by rw [V.up_kid hn ha,V.up_kid hn hb]))
theorem nodup_filter {α:Type} [DecidableEq α] (a:α):∀ (l:List α),l.Nodup->l.length<=(l.filter (· ≠ a)).length+1
 | [],_=>by simp
 | x :: r,h=>by
   rw [List.nodup_cons] at h
   by_cases hx:x=a
   ·subst hx
    have:r.filter (· ≠ x)=r:=List.filter_eq_self.2 fun y hy=>by simp;rintro rfl;exact h.1 hy
    rw [List.filter_cons_of_neg (by simp),this,List.length_cons]
    omega
   ·have:=nodup_filter a r h.2
    rw [List.filter_cons_of_pos (by simpa using hx),List.length_cons,List.length_cons]
    omega
theorem nodup_len:∀ (N:Nat) (l:List Int),l.Nodup->(∀ x∈l,0<=x/\x<N)->l.length<=N
 | 0,l,_,h=>by
   cases l with
   | nil=>simp
   | cons x r=>have:=h x List.mem_cons_self;omega
 | N+1,l,hn,h=>by
   have h1:=nodup_filter (N:Int) l hn
   have h2:=nodup_len N (l.filter (· ≠ (N:Int))) (hn.sublist List.filter_sublist) fun x hx=>by
    rw [List.mem_filter] at hx
    have:=h x hx.1
    have h3:x≠(N:Int):=by simpa using hx.2
    omega
   omega
theorem VV (V:DV d) {n:Int} (hn:inD d n):(J8 d n).length<=d.nodes.length:=nodup_len _ _ (U2 V n hn) (YZ V n hn)
end
end Go.Proofs.K
end
section
set_option linter.unusedSimpArgs false
set_option linter.unusedVariables false
namespace Go.Proofs.K
open Go Go.Sim Go.Proofs
variable {G:U5}
theorem XT (s:List UInt8) (c:UInt8):PCalls (Pg G) 50 [.str s,.int .u8 c.toNat] (Y0 (Lib.indexByte s c)):=by
 refine PCalls.ofRun ⟨_,Tryz.func50,by kernel_rfl,by kernel_rfl⟩ fun g w vs GR V=>?_
 obtain ⟨u,v,rfl,hu,hv⟩:=V.two_inv
 rw [hu.str_inv',hv.int_inv]
 have:=Tryz.strings_IndexByte ⟨⟨s⟩⟩ (c.toNat:Int) w
 refine this.mono fun e w' ⟨he,hw⟩=>⟨_,he,hw,?_⟩
 have e:((c.toNat:Int)).toNat.toUInt8=c:=by simp
 rw [e]
 exact .int _ _
def signsL:List UInt8:=[97,98,99,100,101,102,103,104,105,106,107,108,109,110,111,112,113,114,115,116,117,118,119,120,121,122,48,49,50,51,52,53,54,55,56,57,45,95,58]
theorem trim_ok (s cs:List UInt8) (hs:s.length<=1073741824) (hc:cs.length<=1000) (ha:cs.all (fun b=>decide (b.toNat<128))=true):PCalls (Pg G) 51 [.str s,.str cs] (.str (Lib.trimS s cs)):=by
 refine ofBelow ⟨_,Tryz.func51,by kernel_rfl,by kernel_rfl⟩ fun g w vs GR V=>?_
 obtain ⟨u,v,rfl,hu,hv⟩:=V.two_inv
 rw [hu.str_inv',hv.str_inv']
 exact (Any.strings_Trim_laid Tryz.lays160 (by kernel_rfl) ⟨⟨s⟩⟩ ⟨⟨cs⟩⟩ w (by show s.length<=_;omega) (by show cs.length<_;omega) (ascii_of_all ha)).mono fun e w' ⟨he,hw⟩=>⟨_,he,hw,fun g w=>VRel.str_mk g w _⟩
theorem VQ {α:Type} (p:α->Bool) (l:List α):l.dropWhile p=[]↔l.all p=true:=by
 induction l with
 | nil=>simp
 | cons x r ih=>
   rw [List.dropWhile_cons]
   split
   ·rename_i h;rw [ih];simp [h]
   ·rename_i h;simp [h]
theorem trim_all (s cs:List UInt8):Lib.trimS s cs=[]↔s.all (cs.contains ·)=true:=by
 unfold Lib.trimS Lib.trimLeftS Lib.trimRightS
 rw [VQ,List.all_reverse]
 have hr:s.all (cs.contains ·)=s.reverse.all (cs.contains ·):=by rw [List.all_reverse]
 rw [hr,<-VQ]
 generalize s.reverse=l
 refine Iff.trans ?_ (VQ (cs.contains ·) l)
 constructor
 ·intro h
  cases hd:l.dropWhile (cs.contains ·) with
  | nil=>rfl
  | cons x r=>
    have h2:=List.head_dropWhile_not (cs.contains ·) (l:=l) (by rw [hd];simp)
    simp only [hd,List.head_cons] at h2
    rw [hd,List.dropWhile_cons] at h
    split at h
    ·rename_i h3;rw [h2] at h3;cases h3
    ·cases h
 ·intro h;rw [h];rfl
def namedM (s first:List UInt8):Bool:=decide (s≠[])&&(decide (s.length<=40)&&(first.contains (s.getD 0 0)&&s.all (signsL.contains ·)))
def k38_1:List UInt8:=[97,98,99,100,101,102,103,104,105,106,107,108,109,110,111,112,113,114,115,116,117,118,119,120,121,122,48,49,50,51,52,53,54,55,56,57,45,95,58]
def c38:SFun:=⟨.seq (.reg [o 4 (.mv (.c (.bool false)))]) (.seq (.reg [o 5 (.mv (.t 0)),o 6 (.bin .neq (.t 5) (.c (.str []))),o 7 (.mv (.t 6)),⟨some 8,.mv (.t 0),some (7,true)⟩,⟨some 9,.lenS (.t 8),some (7,true)⟩,⟨some 10,.bin .leq (.t 9) (.c (.int .i64 40)),some (7,true)⟩,o 11 (.pick (.t 7) (.t 10) (.c (.bool false))),o 12 (.mv (.t 11)),⟨some 13,.mv (.t 1),some (12,true)⟩,⟨some 14,.mv (.t 0),some (12,true)⟩,⟨some 15,.idxS (.t 14) (.c (.int .i64 0)),some (12,true)⟩,⟨some 16,.call (.c (.fn 50 [] [])) [.t 13,.t 15],some (12,true)⟩,⟨some 17,.bin .geq (.t 16) (.c (.int .i64 0)),some (12,true)⟩,o 18 (.pick (.t 12) (.t 17) (.c (.bool false))),o 19 (.mv (.t 18)),⟨some 20,.mv (.t 0),some (19,true)⟩,⟨some 21,.call (.c (.fn 51 [] [])) [.t 20,.c (.str k38_1)],some (19,true)⟩,⟨some 22,.bin .eql (.t 21) (.c (.str [])),some (19,true)⟩,o 23 (.pick (.t 19) (.t 22) (.c (.bool false))),o 4 (.mv (.t 23))]) .ret),[.tmp 4]⟩
theorem hc38:Y6 Tryz.prog {} Tryz.f38=some c38:=by kernel_rfl
theorem hn38 : (Tryz.f38.name == "runtime.NumGoroutine") = false := by kernel_rfl
theorem named_ok (s first:List UInt8) (hs:s.length<=1073741824):PCalls (Pg G) 38 [.str s,.str first] (.bool (namedM s first)):=fun h=>by
 have hI:=XT (G:=G) first (s.getD 0 0)
 have hC:=Lib.contains_iff_indexByte first (s.getD 0 0)
 have hT:=trim_ok (G:=G) s signsL hs (by decide) (by decide)
 have hA:=trim_all s signsL
 have hp:∀ {a:Bool},(∀ r h',r=AVal.bool a/\h'=h->Sim.Sub h' h/\r=AVal.bool a):=fun r h' ⟨h1,h2⟩=>by subst h2;exact ⟨Sub.refl _,h1⟩
 unfold namedM
 refine Z4 Tryz.func38 hn38 hc38 (by rw [Tryz.ntmps38];simp) (by rw [Tryz.ntmps38];decide) ?_
 by_cases h1:s=[]
 ·subst h1
  have f1:(([]:List UInt8) != [])=false:=rfl
  simp -dsimp -implicitDefEqProofs (disch:=omega) only [↓Q0 7,↓Q2 7,↓Q0 12,↓Q2 12,↓Q0 19,↓Q2 19,VCA,Z1,↓Q3,Nat.reduceEqDiff,Nat.reduceBEq,Nat.reduceAdd,Nat.reduceSub,Nat.reduceMul,Nat.reduceLT,Nat.reduceLeDiff,↓reduceIte,reduceCtorEq,Z3,Q6,SOp.rd,SI.rd,SX.rd,rdL,rdO,rdP,Q5,Q4,Q1,Q8,Q7,Z0,implies_true,forall_const,forall_eq,ne_eq,exists_eq_right_right,exists_eq_right,exists_eq_left,exists_eq_left',Q9,Z5,Z7,Z6,J9,c38,f1]
  exact ⟨Sub.refl _,by simp⟩
 ·have f1:(s != [])=true:=by simpa using h1
  have hl:=List.length_pos_iff.2 h1
  by_cases h2:s.length<=40
  ·have f2:decide ((s.length:Int)<=40)=true:=by rw [decide_eq_true_iff];omega
   simp -dsimp -implicitDefEqProofs (disch:=omega) only [↓Q0 7,↓Q2 7,↓Q0 12,↓Q2 12,↓Q0 19,↓Q2 19,VCA,Z1,↓Q3,Nat.reduceEqDiff,Nat.reduceBEq,Nat.reduceAdd,Nat.reduceSub,Nat.reduceMul,Nat.reduceLT,Nat.reduceLeDiff,↓reduceIte,reduceCtorEq,Z3,Q6,SOp.rd,SI.rd,SX.rd,rdL,rdO,rdP,Q5,Q4,Q1,Q8,Q7,Z0,implies_true,forall_const,forall_eq,ne_eq,exists_eq_right_right,exists_eq_right,exists_eq_left,exists_eq_left',Q9,Z5,Z7,Z6,J9,c38,f1,f2]
   refine ⟨by omega,?_⟩
   refine PCalls.of hI ?_
   cases h3:first.contains (s.getD 0 0)
   ·have f3:decide ((0:Int)<=Lib.indexByte first (s.getD 0 0))=false:=by rw [<-hC];exact h3
    simp -dsimp -implicitDefEqProofs (disch:=omega) only [↓Q0 7,↓Q2 7,↓Q0 12,↓Q2 12,↓Q0 19,↓Q2 19,VCA,Z1,↓Q3,Nat.reduceEqDiff,Nat.reduceBEq,Nat.reduceAdd,Nat.reduceSub,Nat.reduceMul,Nat.reduceLT,Nat.reduceLeDiff,↓reduceIte,reduceCtorEq,Z3,Q6,SOp.rd,SI.rd,SX.rd,rdL,rdO,rdP,Q5,Q4,Q1,Q8,Q7,Z0,implies_true,forall_const,forall_eq,ne_eq,exists_eq_right_right,exists_eq_right,exists_eq_left,exists_eq_left',Q9,Z5,Z7,Z6,J9,f3]
    exact ⟨Sub.refl _,by simp⟩
   ·have f3:decide ((0:Int)<=Lib.indexByte first (s.getD 0 0))=true:=by rw [<-hC];exact h3
    simp -dsimp -implicitDefEqProofs (disch:=omega) only [↓Q0 7,↓Q2 7,↓Q0 12,↓Q2 12,↓Q0 19,↓Q2 19,VCA,Z1,↓Q3,Nat.reduceEqDiff,Nat.reduceBEq,Nat.reduceAdd,Nat.reduceSub,Nat.reduceMul,Nat.reduceLT,Nat.reduceLeDiff,↓reduceIte,reduceCtorEq,Z3,Q6,SOp.rd,SI.rd,SX.rd,rdL,rdO,rdP,Q5,Q4,Q1,Q8,Q7,Z0,implies_true,forall_const,forall_eq,ne_eq,exists_eq_right_right,exists_eq_right,exists_eq_left,exists_eq_left',Q9,Z5,Z7,Z6,J9,f3]
    refine PCalls.of hT ?_
    simp -dsimp -implicitDefEqProofs (disch:=omega) only [↓Q0 7,↓Q2 7,↓Q0 12,↓Q2 12,↓Q0 19,↓Q2 19,VCA,Z1,↓Q3,Nat.reduceEqDiff,Nat.reduceBEq,Nat.reduceAdd,Nat.reduceSub,Nat.reduceMul,Nat.reduceLT,Nat.reduceLeDiff,↓reduceIte,reduceCtorEq,Z3,Q6,SOp.rd,SI.rd,SX.rd,rdL,rdO,rdP,Q5,Q4,Q1,Q8,Q7,Z0,implies_true,forall_const,forall_eq,ne_eq,exists_eq_right_right,exists_eq_right,exists_eq_left,exists_eq_left',Q9,Z5,Z7,Z6,J9]
    refine ⟨Sub.refl _,?_⟩
    rw [decide_eq_true h1,decide_eq_true h2]
    simp only [Bool.true_and]
    rw [Bool.eq_iff_iff,beq_iff_eq,hA]
  ·have f2:decide ((s.length:Int)<=40)=false:=by rw [decide_eq_false_iff_not];omega
   simp -dsimp -implicitDefEqProofs (disch:=omega) only [↓Q0 7,↓Q2 7,↓Q0 12,↓Q2 12,↓Q0 19,↓Q2 19,VCA,Z1,↓Q3,Nat.reduceEqDiff,Nat.reduceBEq,Nat.reduceAdd,Nat.reduceSub,Nat.reduceMul,Nat.reduceLT,Nat.reduceLeDiff,↓reduceIte,reduceCtorEq,Z3,Q6,SOp.rd,SI.rd,SX.rd,rdL,rdO,rdP,Q5,Q4,Q1,Q8,Q7,Z0,implies_true,forall_const,forall_eq,ne_eq,exists_eq_right_right,exists_eq_right,exists_eq_left,exists_eq_left',Q9,Z5,Z7,Z6,J9,c38,f1,f2]
   exact ⟨Sub.refl _,by simp [h2]⟩
theorem sign_all (b:UInt8):signsL.contains b=signB b:=by
 have:=u8_all (p:=fun b=>signsL.contains b==signB b) (by decide +kernel) b
 simpa using this
theorem first_all (el:Bool) (b:UInt8):(if el=true then signsL.take 26 else signsL.take 26++[45,95]).contains b=firstB el b:=by
 cases el
 ·have:=u8_all (p:=fun b=>(signsL.take 26++[45,95]).contains b==firstB false b) (by decide +kernel) b
  simpa using this
 ·have:=u8_all (p:=fun b=>(signsL.take 26).contains b==firstB true b) (by decide +kernel) b
  simpa using this
theorem namedM_eq (s:List UInt8) (el:Bool):namedM s (if el=true then signsL.take 26 else signsL.take 26++[45,95])=YW el s:=by
 unfold namedM YW
 rw [first_all]
 have e1:s.all (signsL.contains ·)=s.all signB:=by congr 1;funext b;exact sign_all b
 rw [e1]
 have e2:decide (s≠[])=decide (1<=s.length):=by
  rw [Bool.eq_iff_iff,decide_eq_true_iff,decide_eq_true_iff,<-List.length_pos_iff];exact Iff.rfl
 rw [e2]
def k28_1:List UInt8:=[97,98,99,100,101,102,103,104,105,106,107,108,109,110,111,112,113,114,115,116,117,118,119,120,121,122,48,49,50,51,52,53,54,55,56,57,45,95,58]
def c28:SFun:=⟨.seq (.reg [o 2 (.mv (.c (.bool false)))]) (.seq (.reg [o 3 (.mv (.t 0)),o 4 (.slS (.c (.str k28_1)) none (some (.c (.int .i64 26)))),o 5 (.call (.c (.fn 38 [] [])) [.t 3,.t 4]),o 2 (.mv (.t 5))]) .ret),[.tmp 2]⟩
theorem hc28:Y6 Tryz.prog {} Tryz.f28=some c28:=by kernel_rfl
theorem hn28 : (Tryz.f28.name == "runtime.NumGoroutine") = false := by kernel_rfl
theorem name_ok (s:List UInt8) (hs:s.length<=1073741824):PCalls (Pg G) 28 [.str s] (.bool (YW true s)):=fun h=>by
 refine Z4 Tryz.func28 hn28 hc28 (by rw [Tryz.ntmps28];simp) (by rw [Tryz.ntmps28];decide) ?_
 simp -dsimp -implicitDefEqProofs (disch:=omega) only [VCA,Z1,↓Q3,Nat.reduceEqDiff,Nat.reduceBEq,Nat.reduceAdd,Nat.reduceSub,Nat.reduceMul,Nat.reduceLT,Nat.reduceLeDiff,↓reduceIte,reduceCtorEq,Z3,Q6,SOp.rd,SI.rd,SX.rd,rdL,rdO,rdP,Q5,Q4,Q1,Q8,Q7,Z0,implies_true,forall_const,forall_eq,ne_eq,exists_eq_right_right,exists_eq_right,exists_eq_left,exists_eq_left',Q9,Z5,Z7,Z6,J9,c28]
 refine ⟨by decide,PCalls.of (named_ok s _ hs) ?_⟩
 simp -dsimp -implicitDefEqProofs (disch:=omega) only [VCA,Z1,↓Q3,Nat.reduceEqDiff,Nat.reduceBEq,Nat.reduceAdd,Nat.reduceSub,Nat.reduceMul,Nat.reduceLT,Nat.reduceLeDiff,↓reduceIte,reduceCtorEq,Z3,Q6,SOp.rd,SI.rd,SX.rd,rdL,rdO,rdP,Q5,Q4,Q1,Q8,Q7,Z0,implies_true,forall_const,forall_eq,ne_eq,exists_eq_right_right,exists_eq_right,exists_eq_left,exists_eq_left',Q9,Z5,Z7,Z6,J9]
 exact ⟨Sub.refl _,by rw [<-namedM_eq];rfl⟩
def k39_1:List UInt8:=[97,98,99,100,101,102,103,104,105,106,107,108,109,110,111,112,113,114,115,116,117,118,119,120,121,122,48,49,50,51,52,53,54,55,56,57,45,95,58]
def c39:SFun:=⟨.seq (.reg [o 2 (.mv (.c (.bool false)))]) (.seq (.reg [o 3 (.mv (.t 0)),o 4 (.slS (.c (.str k39_1)) none (some (.c (.int .i64 26)))),o 5 (.bin .add (.t 4) (.c (.str [45,95]))),o 6 (.call (.c (.fn 38 [] [])) [.t 3,.t 5]),o 2 (.mv (.t 6))]) .ret),[.tmp 2]⟩
theorem hc39:Y6 Tryz.prog {} Tryz.f39=some c39:=by kernel_rfl
theorem hn39 : (Tryz.f39.name == "runtime.NumGoroutine") = false := by kernel_rfl
theorem attrName_ok (s:List UInt8) (hs:s.length<=1073741824):PCalls (Pg G) 39 [.str s] (.bool (YW false s)):=fun h=>by
 refine Z4 Tryz.func39 hn39 hc39 (by rw [Tryz.ntmps39];simp) (by rw [Tryz.ntmps39];decide) ?_
 simp -dsimp -implicitDefEqProofs (disch:=omega) only [VCA,Z1,↓Q3,Nat.reduceEqDiff,Nat.reduceBEq,Nat.reduceAdd,Nat.reduceSub,Nat.reduceMul,Nat.reduceLT,Nat.reduceLeDiff,↓reduceIte,reduceCtorEq,Z3,Q6,SOp.rd,SI.rd,SX.rd,rdL,rdO,rdP,Q5,Q4,Q1,Q8,Q7,Z0,implies_true,forall_const,forall_eq,ne_eq,exists_eq_right_right,exists_eq_right,exists_eq_left,exists_eq_left',Q9,Z5,Z7,Z6,J9,c39]
 refine ⟨by decide,by decide,PCalls.of (named_ok s _ hs) ?_⟩
 simp -dsimp -implicitDefEqProofs (disch:=omega) only [VCA,Z1,↓Q3,Nat.reduceEqDiff,Nat.reduceBEq,Nat.reduceAdd,Nat.reduceSub,Nat.reduceMul,Nat.reduceLT,Nat.reduceLeDiff,↓reduceIte,reduceCtorEq,Z3,Q6,SOp.rd,SI.rd,SX.rd,rdL,rdO,rdP,Q5,Q4,Q1,Q8,Q7,Z0,implies_true,forall_const,forall_eq,ne_eq,exists_eq_right_right,exists_eq_right,exists_eq_left,exists_eq_left',Q9,Z5,Z7,Z6,J9]
 exact ⟨Sub.refl _,by rw [<-namedM_eq];rfl⟩
def c52:SFun:=⟨.seq (.reg [o 4 (.mv (.c (.int .i64 0)))]) (.seq (.seq (.reg [o 6 (.mv (.t 0)),o 7 (.len (.t 6)),o 8 (.mv (.c (.int .i64 0)))]) (.block 0 (.loop (.seq (.reg [o 9 (.bin .lss (.t 8) (.t 7))]) (.seq (.cond (.t 9) .skip (.exit 0)) (.seq (.block 1 (.seq (.reg [o 10 (.mv (.t 8)),o 5 (.mv (.t 10))]) (.seq (.reg [o 11 (.mv (.t 1)),o 12 (.mv (.t 0)),o 13 (.mv (.t 5)),o 14 (.idxA 2 (.t 12) (.t 13)),o 15 (.ld 2 true (.t 14)),o 16 (.call (.t 11) [.t 15])]) (.cond (.t 16) (.seq (.reg [o 17 (.mv (.t 5)),o 4 (.mv (.t 17))]) .ret) .skip)))) (.reg [o 18 (.bin .add (.t 8) (.c (.int .i64 1))),o 8 (.mv (.t 18))]))))))) (.seq (.reg [o 4 (.mv (.c (.int .i64 (-1))))]) .ret)),[.tmp 4]⟩
theorem hc52:Y6 Tryz.prog {} Tryz.f52=some c52:=by kernel_rfl
theorem hn52 : (Tryz.f52.name == "runtime.NumGoroutine") = false := by kernel_rfl
theorem indexFA_ok {h:Z2} (l:List HAttr) (f:Nat) (a b:List AVal) (p:HAttr->Bool) (hl:l.length<=1073741824)
 (hp:∀ x,DCalls (Pg G) f (a++([.agg (Z5 x)]++b)) h fun r h'=>r=.bool (p x)/\h'=h):DCalls (Pg G) 52 [sl Z5 l,.fn f a b] h fun r h'=>r=Y0 (idxM p l)/\h'=h:=by
 refine Z4 Tryz.func52 hn52 hc52 (by rw [Tryz.ntmps52];simp) (by rw [Tryz.ntmps52];decide) ?_
 simp -dsimp -implicitDefEqProofs (disch:=omega) only [VCA,Z1,↓Q3,Nat.reduceEqDiff,Nat.reduceBEq,Nat.reduceAdd,Nat.reduceSub,Nat.reduceMul,Nat.reduceLT,Nat.reduceLeDiff,↓reduceIte,reduceCtorEq,Z3,Q6,SOp.rd,SI.rd,SX.rd,rdL,rdO,rdP,Q5,Q4,Q1,Q8,Q7,Z0,implies_true,forall_const,forall_eq,ne_eq,exists_eq_right_right,exists_eq_right,exists_eq_left,exists_eq_left',Q9,Z5,Z7,Z6,J9,c52]
 refine LoopVC.intro (fun m e h'=>∃ k:Nat,k<=l.length/\m=l.length-k/\e 0=sl Z5 l/\e 1=.fn f a b/\e 7=Y0 l.length/\e 8=Y0 k/\h'=h /\ ∀ j,j<k->p (nth l j)=false) l.length ⟨0,by omega,by omega,rfl,rfl,rfl,rfl,rfl,by omega⟩ ?_
 rintro m e h' ⟨k,hk,rfl,he0,he1,he7,he8,rfl,hj⟩
 simp -dsimp -implicitDefEqProofs (disch:=omega) only [VCA,Z1,↓Q3,Nat.reduceEqDiff,Nat.reduceBEq,Nat.reduceAdd,Nat.reduceSub,Nat.reduceMul,Nat.reduceLT,Nat.reduceLeDiff,↓reduceIte,reduceCtorEq,Z3,Q6,SOp.rd,SI.rd,SX.rd,rdL,rdO,rdP,Q5,Q4,Q1,Q8,Q7,Z0,implies_true,forall_const,forall_eq,ne_eq,exists_eq_right_right,exists_eq_right,exists_eq_left,exists_eq_left',Q9,Z5,Z7,Z6,J9,he0,he1,he7,he8]
 refine Br.dec (fun hlt=>?_) (fun hge=>?_)
 ·simp -dsimp -implicitDefEqProofs (disch:=omega) only [VCA,Z1,↓Q3,Nat.reduceEqDiff,Nat.reduceBEq,Nat.reduceAdd,Nat.reduceSub,Nat.reduceMul,Nat.reduceLT,Nat.reduceLeDiff,↓reduceIte,reduceCtorEq,Z3,Q6,SOp.rd,SI.rd,SX.rd,rdL,rdO,rdP,Q5,Q4,Q1,Q8,Q7,Z0,implies_true,forall_const,forall_eq,ne_eq,exists_eq_right_right,exists_eq_right,exists_eq_left,exists_eq_left',Q9,Z5,Z7,Z6,J9,he0,he1,he7,he8,Z5]
  refine ⟨by omega,DCalls.of (hp (nth l k)) ?_⟩
  rintro r h' ⟨rfl,rfl⟩
  simp -dsimp -implicitDefEqProofs (disch:=omega) only [VCA,Z1,↓Q3,Nat.reduceEqDiff,Nat.reduceBEq,Nat.reduceAdd,Nat.reduceSub,Nat.reduceMul,Nat.reduceLT,Nat.reduceLeDiff,↓reduceIte,reduceCtorEq,Z3,Q6,SOp.rd,SI.rd,SX.rd,rdL,rdO,rdP,Q5,Q4,Q1,Q8,Q7,Z0,implies_true,forall_const,forall_eq,ne_eq,exists_eq_right_right,exists_eq_right,exists_eq_left,exists_eq_left',Q9,Z5,Z7,Z6,J9,he0,he1,he7,he8]
  refine Br.intro (fun ht=>?_) (fun hf=>?_)
  ·simp -dsimp -implicitDefEqProofs (disch:=omega) only [VCA,Z1,↓Q3,Nat.reduceEqDiff,Nat.reduceBEq,Nat.reduceAdd,Nat.reduceSub,Nat.reduceMul,Nat.reduceLT,Nat.reduceLeDiff,↓reduceIte,reduceCtorEq,Z3,Q6,SOp.rd,SI.rd,SX.rd,rdL,rdO,rdP,Q5,Q4,Q1,Q8,Q7,Z0,implies_true,forall_const,forall_eq,ne_eq,exists_eq_right_right,exists_eq_right,exists_eq_left,exists_eq_left',Q9,Z5,Z7,Z6,J9]
   rw [idxM_some (by omega) hj ht];exact ⟨Sub.refl _,rfl⟩
  ·simp -dsimp -implicitDefEqProofs (disch:=omega) only [VCA,Z1,↓Q3,Nat.reduceEqDiff,Nat.reduceBEq,Nat.reduceAdd,Nat.reduceSub,Nat.reduceMul,Nat.reduceLT,Nat.reduceLeDiff,↓reduceIte,reduceCtorEq,Z3,Q6,SOp.rd,SI.rd,SX.rd,rdL,rdO,rdP,Q5,Q4,Q1,Q8,Q7,Z0,implies_true,forall_const,forall_eq,ne_eq,exists_eq_right_right,exists_eq_right,exists_eq_left,exists_eq_left',Q9,Z5,Z7,Z6,J9,he0,he1,he7,he8]
   refine ⟨_,?_,k+1,by omega,rfl,by omega,fun j hj'=>?_⟩
   ·omega
   ·by_cases h1:j=k
    ·subst h1;exact hf
    ·exact hj j (by omega)
 ·simp -dsimp -implicitDefEqProofs (disch:=omega) only [VCA,Z1,↓Q3,Nat.reduceEqDiff,Nat.reduceBEq,Nat.reduceAdd,Nat.reduceSub,Nat.reduceMul,Nat.reduceLT,Nat.reduceLeDiff,↓reduceIte,reduceCtorEq,Z3,Q6,SOp.rd,SI.rd,SX.rd,rdL,rdO,rdP,Q5,Q4,Q1,Q8,Q7,Z0,implies_true,forall_const,forall_eq,ne_eq,exists_eq_right_right,exists_eq_right,exists_eq_left,exists_eq_left',Q9,Z5,Z7,Z6,J9]
  rw [idxM_none (fun j hj'=>hj j (by omega))];exact ⟨Sub.refl _,rfl⟩
def c53:SFun:=⟨.seq (.reg [o 2 (.boxF 59 2 (.t 0)),o 3 (.mv (.c (.bool false)))]) (.seq (.reg [o 4 (.fldA 0 (.t 2)),o 5 (.ld 1 false (.t 4)),o 6 (.ld 1 false (.t 1)),o 7 (.bin .eql (.t 5) (.t 6)),o 3 (.mv (.t 7))]) .ret),[.tmp 3]⟩
theorem hc53:Y6 Tryz.prog {} Tryz.f53=some c53:=by kernel_rfl
theorem find1_ok (name:List UInt8) (a:HAttr):PCalls (Pg G) 53 [.agg (Z5 a),.pin [.str name]] (.bool (a.name==name)):=fun h=>by
 refine Z4 Tryz.func53 (by kernel_rfl) hc53 (by rw [Tryz.ntmps53];simp) (by rw [Tryz.ntmps53];decide) ?_
 simp -dsimp -implicitDefEqProofs (disch:=omega) only [VCA,Z1,↓Q3,Nat.reduceEqDiff,Nat.reduceBEq,Nat.reduceAdd,Nat.reduceSub,Nat.reduceMul,Nat.reduceLT,Nat.reduceLeDiff,↓reduceIte,reduceCtorEq,Z3,Q6,SOp.rd,SI.rd,SX.rd,rdL,rdO,rdP,Q5,Q4,Q1,Q8,Q7,Z0,implies_true,forall_const,forall_eq,ne_eq,exists_eq_right_right,exists_eq_right,exists_eq_left,exists_eq_left',Q9,Z5,Z7,Z6,J9,c53,Z5]
 exact Sub.refl _
def c40:SFun:=⟨.seq (.reg [o 3 (.boxF 9 1 (.t 1)),o 4 (.mv (.c (.int .i64 0)))]) (.seq (.reg [o 5 (.mv (.t 0)),o 6 (.mkf 53 [] [.t 3]),o 7 (.call (.c (.fn 52 [] [])) [.t 5,.t 6]),o 4 (.mv (.t 7))]) .ret),[.tmp 4]⟩
theorem hc40:Y6 Tryz.prog {} Tryz.f40=some c40:=by kernel_rfl
theorem hn40 : (Tryz.f40.name == "runtime.NumGoroutine") = false := by kernel_rfl
theorem find_ok (l:List HAttr) (name:List UInt8) (hl:l.length<=1073741824):PCalls (Pg G) 40 [sl Z5 l,.str name] (Y0 (attrAt l name)):=fun h=>by
 refine Z4 Tryz.func40 hn40 hc40 (by rw [Tryz.ntmps40];simp) (by rw [Tryz.ntmps40];decide) ?_
 simp -dsimp -implicitDefEqProofs (disch:=omega) only [VCA,Z1,↓Q3,Nat.reduceEqDiff,Nat.reduceBEq,Nat.reduceAdd,Nat.reduceSub,Nat.reduceMul,Nat.reduceLT,Nat.reduceLeDiff,↓reduceIte,reduceCtorEq,Z3,Q6,SOp.rd,SI.rd,SX.rd,rdL,rdO,rdP,Q5,Q4,Q1,Q8,Q7,Z0,implies_true,forall_const,forall_eq,ne_eq,exists_eq_right_right,exists_eq_right,exists_eq_left,exists_eq_left',Q9,Z5,Z7,Z6,J9,c40]
 refine DCalls.of (indexFA_ok l 53 [] [.pin [.str name]] (fun a=>a.name==name) hl fun x=>find1_ok name x h) ?_
 rintro r h' ⟨rfl,rfl⟩
 simp -dsimp -implicitDefEqProofs (disch:=omega) only [VCA,Z1,↓Q3,Nat.reduceEqDiff,Nat.reduceBEq,Nat.reduceAdd,Nat.reduceSub,Nat.reduceMul,Nat.reduceLT,Nat.reduceLeDiff,↓reduceIte,reduceCtorEq,Z3,Q6,SOp.rd,SI.rd,SX.rd,rdL,rdO,rdP,Q5,Q4,Q1,Q8,Q7,Z0,implies_true,forall_const,forall_eq,ne_eq,exists_eq_right_right,exists_eq_right,exists_eq_left,exists_eq_left',Q9,Z5,Z7,Z6,J9]
 exact ⟨Sub.refl _,rfl⟩
def c29:SFun:=⟨.seq (.reg [o 2 (.mv (.c (.int .i64 0)))]) (.seq (.seq (.reg [o 5 (.mv (.t 0)),o 6 (.len (.t 5)),o 7 (.bin .gtr (.t 6) (.c (.int .i64 12)))]) (.cond (.t 7) (.seq (.reg [o 2 (.mv (.c (.int .i64 2)))]) .ret) .skip)) (.seq (.seq (.reg [o 8 (.mv (.t 0)),o 9 (.len (.t 8)),o 10 (.mv (.c (.int .i64 0)))]) (.block 0 (.loop (.seq (.reg [o 11 (.bin .lss (.t 10) (.t 9))]) (.seq (.cond (.t 11) .skip (.exit 0)) (.seq (.block 1 (.seq (.reg [o 12 (.mv (.t 10)),o 13 (.idxA 2 (.t 8) (.t 10)),o 14 (.ld 2 true (.t 13)),o 4 (.new 59 2 [.str [],.str []]),o 3 (.mv (.t 12)),⟨none,.st 2 (.t 4) (.t 14),none⟩]) (.block 2 (.seq (.reg [o 16 (.fldA 0 (.t 4)),o 17 (.ld 1 false (.t 16)),o 18 (.pcall 39 [.t 17]),o 19 (.un .not (.t 18)),o 15 (.mv (.t 19))]) (.cond (.t 15) (.seq (.reg [o 2 (.mv (.c (.int .i64 3)))]) .ret) (.seq (.reg [o 21 (.fldA 1 (.t 4)),o 22 (.ld 1 false (.t 21)),o 23 (.lenS (.t 22)),o 24 (.bin .gtr (.t 23) (.c (.int .i64 400))),o 20 (.mv (.t 24))]) (.cond (.t 20) (.seq (.reg [o 2 (.mv (.c (.int .i64 2)))]) .ret) (.seq (.dreg [(o 26 (.mv (.t 0)),none),(o 27 (.mv (.t 3)),none),(o 28 (.slA 2 (.t 26) none (some (.t 27))),none),(o 29 (.fldA 0 (.t 4)),none),(o 30 (.ld 1 false (.t 29)),none),(o 31 (.pcall 40 [.t 28,.t 30]),none),(o 32 (.bin .geq (.t 31) (.c (.int .i64 0))),none),(o 25 (.mv (.t 32)),none)]) (.cond (.t 25) (.seq (.reg [o 2 (.mv (.c (.int .i64 3)))]) .ret) .skip))))))))) (.reg [o 33 (.bin .add (.t 10) (.c (.int .i64 1))),o 10 (.mv (.t 33))]))))))) (.seq (.reg [o 2 (.mv (.c (.int .i64 0)))]) .ret))),[.tmp 2]⟩
theorem hc29:Y6 Tryz.prog {pure:=[39,40]} Tryz.f29=some c29:=by kernel_rfl
theorem hn29 : (Tryz.f29.name == "runtime.NumGoroutine") = false := by kernel_rfl
theorem attrs_ok (l:List HAttr) (hl:l.length<=1073741824) (hs:∀ a∈l,a.name.length<=1073741824):PCalls (Pg G) 29 [sl Z5 l] (Y0 (attrsE l)):=fun h=>by
 refine Z4 Tryz.func29 hn29 hc29 (by rw [Tryz.ntmps29];simp) (by rw [Tryz.ntmps29];decide) ?_
 simp -dsimp -implicitDefEqProofs (disch:=omega) only [VCA,Z1,↓Q3,Nat.reduceEqDiff,Nat.reduceBEq,Nat.reduceAdd,Nat.reduceSub,Nat.reduceMul,Nat.reduceLT,Nat.reduceLeDiff,↓reduceIte,reduceCtorEq,Z3,Q6,SOp.rd,SI.rd,SX.rd,rdL,rdO,rdP,Q5,Q4,Q1,Q8,Q7,Z0,implies_true,forall_const,forall_eq,ne_eq,exists_eq_right_right,exists_eq_right,exists_eq_left,exists_eq_left',Q9,Z5,Z7,Z6,J9,c29]
 unfold attrsE
 refine Br.dec (fun h1=>?_) (fun h1=>?_)
 ·simp -dsimp -implicitDefEqProofs (disch:=omega) only [VCA,Z1,↓Q3,Nat.reduceEqDiff,Nat.reduceBEq,Nat.reduceAdd,Nat.reduceSub,Nat.reduceMul,Nat.reduceLT,Nat.reduceLeDiff,↓reduceIte,reduceCtorEq,Z3,Q6,SOp.rd,SI.rd,SX.rd,rdL,rdO,rdP,Q5,Q4,Q1,Q8,Q7,Z0,implies_true,forall_const,forall_eq,ne_eq,exists_eq_right_right,exists_eq_right,exists_eq_left,exists_eq_left',Q9,Z5,Z7,Z6,J9]
  exact ⟨Sub.refl _,by rw [if_pos (by omega)]⟩
 ·rw [if_neg (by omega)]
  simp -dsimp -implicitDefEqProofs (disch:=omega) only [VCA,Z1,↓Q3,Nat.reduceEqDiff,Nat.reduceBEq,Nat.reduceAdd,Nat.reduceSub,Nat.reduceMul,Nat.reduceLT,Nat.reduceLeDiff,↓reduceIte,reduceCtorEq,Z3,Q6,SOp.rd,SI.rd,SX.rd,rdL,rdO,rdP,Q5,Q4,Q1,Q8,Q7,Z0,implies_true,forall_const,forall_eq,ne_eq,exists_eq_right_right,exists_eq_right,exists_eq_left,exists_eq_left',Q9,Z5,Z7,Z6,J9]
  refine LoopVC.intro (fun m e h'=>∃ k:Nat,k<=l.length/\m=l.length-k/\e 0=sl Z5 l/\e 8=sl Z5 l/\e 9=Y0 l.length/\e 10=Y0 k/\Sim.Sub h h' /\ ∀ j,j<k->attrE l j=0) l.length ⟨0,by omega,by omega,rfl,rfl,rfl,rfl,Sub.refl _,by omega⟩ ?_
  rintro m e h' ⟨k,hk,rfl,he0,he8,he9,he10,S,hj⟩
  simp -dsimp -implicitDefEqProofs (disch:=omega) only [VCA,Z1,↓Q3,Nat.reduceEqDiff,Nat.reduceBEq,Nat.reduceAdd,Nat.reduceSub,Nat.reduceMul,Nat.reduceLT,Nat.reduceLeDiff,↓reduceIte,reduceCtorEq,Z3,Q6,SOp.rd,SI.rd,SX.rd,rdL,rdO,rdP,Q5,Q4,Q1,Q8,Q7,Z0,implies_true,forall_const,forall_eq,ne_eq,exists_eq_right_right,exists_eq_right,exists_eq_left,exists_eq_left',Q9,Z5,Z7,Z6,J9,he0,he8,he9,he10]
  refine Br.dec (fun hlt=>?_) (fun hge=>?_)
  ·have hk':k<l.length:=by omega
   have hn:=hs _ (U8 hk')
   have e2:(l.take (Int.toNat (k:Int)))=l.take k:=by simp
   have go0:attrE l k=0 -> ∀ h2,Sim.Sub h h2 -> ∃ m',m'<l.length-k /\ ∃ k1,k1<=l.length/\m'=l.length-k1/\(k:Int)+1=k1/\Sim.Sub h h2 /\ ∀ j,j<k1->attrE l j=0:=fun h0 h2 S2=>
    ⟨l.length-(k+1),by omega,k+1,by omega,rfl,by omega,S2,fun j hj'=>by
      by_cases hjk:j=k
      ·subst hjk;exact h0
      ·exact hj j (by omega)⟩
   have fin:∀ x:Int,x≠0->attrE l k=x->fe l.length (attrE l)=x:=fun x hx he=>by rw [fe_some hk' hj (by rw [he];exact hx),he]
   simp -dsimp -implicitDefEqProofs (disch:=omega) only [VCA,Z1,↓Q3,Nat.reduceEqDiff,Nat.reduceBEq,Nat.reduceAdd,Nat.reduceSub,Nat.reduceMul,Nat.reduceLT,Nat.reduceLeDiff,↓reduceIte,reduceCtorEq,Z3,Q6,SOp.rd,SI.rd,SX.rd,rdL,rdO,rdP,Q5,Q4,Q1,Q8,Q7,Z0,implies_true,forall_const,forall_eq,ne_eq,exists_eq_right_right,exists_eq_right,exists_eq_left,exists_eq_left',Q9,Z5,Z7,Z6,J9,he0,he8,he9,he10]
   refine ⟨by omega,fun r hr=>?_⟩
   have S1:=S.upd (x:=some ⟨.t 59,2,[[.str (nth l k).name,.str (nth l k).value]]⟩) (S.none hr)
   refine pcallE.of (attrName_ok _ hn) ?_;simp -dsimp -implicitDefEqProofs (disch:=omega) only [VCA,Z1,↓Q3,Nat.reduceEqDiff,Nat.reduceBEq,Nat.reduceAdd,Nat.reduceSub,Nat.reduceMul,Nat.reduceLT,Nat.reduceLeDiff,↓reduceIte,reduceCtorEq,Z3,Q6,SOp.rd,SI.rd,SX.rd,rdL,rdO,rdP,Q5,Q4,Q1,Q8,Q7,Z0,implies_true,forall_const,forall_eq,ne_eq,exists_eq_right_right,exists_eq_right,exists_eq_left,exists_eq_left',Q9,Z5,Z7,Z6,J9,Z9,he0,he8,he9,he10]
   refine Br.intro (fun h2=>?_) (fun h2=>?_)
   ·simp -dsimp -implicitDefEqProofs (disch:=omega) only [VCA,Z1,↓Q3,Nat.reduceEqDiff,Nat.reduceBEq,Nat.reduceAdd,Nat.reduceSub,Nat.reduceMul,Nat.reduceLT,Nat.reduceLeDiff,↓reduceIte,reduceCtorEq,Z3,Q6,SOp.rd,SI.rd,SX.rd,rdL,rdO,rdP,Q5,Q4,Q1,Q8,Q7,Z0,implies_true,forall_const,forall_eq,ne_eq,exists_eq_right_right,exists_eq_right,exists_eq_left,exists_eq_left',Q9,Z5,Z7,Z6,J9]
    exact ⟨S1,(fin 3 (by decide) (by unfold attrE;rw [if_pos (by simpa using h2)])).symm⟩
   ·have h2:YW false (nth l k).name=true:=by simpa using h2
    simp -dsimp -implicitDefEqProofs (disch:=omega) only [VCA,Z1,↓Q3,Nat.reduceEqDiff,Nat.reduceBEq,Nat.reduceAdd,Nat.reduceSub,Nat.reduceMul,Nat.reduceLT,Nat.reduceLeDiff,↓reduceIte,reduceCtorEq,Z3,Q6,SOp.rd,SI.rd,SX.rd,rdL,rdO,rdP,Q5,Q4,Q1,Q8,Q7,Z0,implies_true,forall_const,forall_eq,ne_eq,exists_eq_right_right,exists_eq_right,exists_eq_left,exists_eq_left',Q9,Z5,Z7,Z6,J9,Z9,he0,he8,he9,he10]
    refine Br.dec (fun h3=>?_) (fun h3=>?_)
    ·simp -dsimp -implicitDefEqProofs (disch:=omega) only [VCA,Z1,↓Q3,Nat.reduceEqDiff,Nat.reduceBEq,Nat.reduceAdd,Nat.reduceSub,Nat.reduceMul,Nat.reduceLT,Nat.reduceLeDiff,↓reduceIte,reduceCtorEq,Z3,Q6,SOp.rd,SI.rd,SX.rd,rdL,rdO,rdP,Q5,Q4,Q1,Q8,Q7,Z0,implies_true,forall_const,forall_eq,ne_eq,exists_eq_right_right,exists_eq_right,exists_eq_left,exists_eq_left',Q9,Z5,Z7,Z6,J9]
     exact ⟨S1,(fin 2 (by decide) (by unfold attrE;rw [if_neg (by simp [h2]),if_pos (by omega)])).symm⟩
    ·simp -dsimp -implicitDefEqProofs (disch:=omega) only [VCA,Z1,↓Q3,Nat.reduceEqDiff,Nat.reduceBEq,Nat.reduceAdd,Nat.reduceSub,Nat.reduceMul,Nat.reduceLT,Nat.reduceLeDiff,↓reduceIte,reduceCtorEq,Z3,Q6,SOp.rd,SI.rd,SX.rd,rdL,rdO,rdP,Q5,Q4,Q1,Q8,Q7,Z0,implies_true,forall_const,forall_eq,ne_eq,exists_eq_right_right,exists_eq_right,exists_eq_left,exists_eq_left',Q9,Z5,Z7,Z6,J9,Z9,he0,he8,he9,he10]
     refine ⟨by omega,?_⟩
     refine pcallE.of (find_ok (l.take k) (nth l k).name (by simp;omega)) ?_;simp -dsimp -implicitDefEqProofs (disch:=omega) only [VCA,Z1,↓Q3,Nat.reduceEqDiff,Nat.reduceBEq,Nat.reduceAdd,Nat.reduceSub,Nat.reduceMul,Nat.reduceLT,Nat.reduceLeDiff,↓reduceIte,reduceCtorEq,Z3,Q6,SOp.rd,SI.rd,SX.rd,rdL,rdO,rdP,Q5,Q4,Q1,Q8,Q7,Z0,implies_true,forall_const,forall_eq,ne_eq,exists_eq_right_right,exists_eq_right,exists_eq_left,exists_eq_left',Q9,Z5,Z7,Z6,J9,Z9,he0,he8,he9,he10]
     refine Br.dec (fun h4=>?_) (fun h4=>?_)
     ·simp -dsimp -implicitDefEqProofs (disch:=omega) only [VCA,Z1,↓Q3,Nat.reduceEqDiff,Nat.reduceBEq,Nat.reduceAdd,Nat.reduceSub,Nat.reduceMul,Nat.reduceLT,Nat.reduceLeDiff,↓reduceIte,reduceCtorEq,Z3,Q6,SOp.rd,SI.rd,SX.rd,rdL,rdO,rdP,Q5,Q4,Q1,Q8,Q7,Z0,implies_true,forall_const,forall_eq,ne_eq,exists_eq_right_right,exists_eq_right,exists_eq_left,exists_eq_left',Q9,Z5,Z7,Z6,J9]
      exact ⟨S1,(fin 3 (by decide) (by unfold attrE;rw [if_neg (by simp [h2]),if_neg (by omega),if_pos h4])).symm⟩
     ·simp -dsimp -implicitDefEqProofs (disch:=omega) only [VCA,Z1,↓Q3,Nat.reduceEqDiff,Nat.reduceBEq,Nat.reduceAdd,Nat.reduceSub,Nat.reduceMul,Nat.reduceLT,Nat.reduceLeDiff,↓reduceIte,reduceCtorEq,Z3,Q6,SOp.rd,SI.rd,SX.rd,rdL,rdO,rdP,Q5,Q4,Q1,Q8,Q7,Z0,implies_true,forall_const,forall_eq,ne_eq,exists_eq_right_right,exists_eq_right,exists_eq_left,exists_eq_left',Q9,Z5,Z7,Z6,J9,Z9,he0,he8,he9,he10]
      refine go0 ?_ _ S1
      unfold attrE
      rw [if_neg (by simp [h2]),if_neg (by omega),if_neg h4]
  ·simp -dsimp -implicitDefEqProofs (disch:=omega) only [VCA,Z1,↓Q3,Nat.reduceEqDiff,Nat.reduceBEq,Nat.reduceAdd,Nat.reduceSub,Nat.reduceMul,Nat.reduceLT,Nat.reduceLeDiff,↓reduceIte,reduceCtorEq,Z3,Q6,SOp.rd,SI.rd,SX.rd,rdL,rdO,rdP,Q5,Q4,Q1,Q8,Q7,Z0,implies_true,forall_const,forall_eq,ne_eq,exists_eq_right_right,exists_eq_right,exists_eq_left,exists_eq_left',Q9,Z5,Z7,Z6,J9]
   obtain rfl:k=l.length:=by omega
   exact ⟨S,(XW hj).symm⟩
def c37:SFun:=⟨.seq (.reg [o 2 (.mv (.c (.bool false)))]) (.seq (.reg [o 3 (.mv (.t 0)),o 4 (.bin .eql (.t 3) (.c (.int .i64 1))),o 5 (.mv (.t 4)),⟨some 6,.mv (.t 0),some (5,false)⟩,⟨some 7,.bin .eql (.t 6) (.c (.int .i64 2)),some (5,false)⟩,o 8 (.pick (.t 5) (.c (.bool true)) (.t 7)),o 2 (.mv (.t 8))]) .ret),[.tmp 2]⟩
theorem hc37:Y6 Tryz.prog {} Tryz.f37=some c37:=by kernel_rfl
theorem hn37 : (Tryz.f37.name == "runtime.NumGoroutine") = false := by kernel_rfl
theorem parent_ok (k:Int):PCalls (Pg G) 37 [Y0 k] (.bool (decide (k=1)||decide (k=2))):=fun h=>by
 refine Z4 Tryz.func37 hn37 hc37 (by rw [Tryz.ntmps37];simp) (by rw [Tryz.ntmps37];decide) ?_
 by_cases h1:k=1
 ·subst h1
  simp -dsimp -implicitDefEqProofs (disch:=omega) only [↓Q0 5,↓Q2 5,VCA,Z1,↓Q3,Nat.reduceEqDiff,Nat.reduceBEq,Nat.reduceAdd,Nat.reduceSub,Nat.reduceMul,Nat.reduceLT,Nat.reduceLeDiff,↓reduceIte,reduceCtorEq,Z3,Q6,SOp.rd,SI.rd,SX.rd,rdL,rdO,rdP,Q5,Q4,Q1,Q8,Q7,Z0,implies_true,forall_const,forall_eq,ne_eq,exists_eq_right_right,exists_eq_right,exists_eq_left,exists_eq_left',Q9,Z5,Z7,Z6,J9,c37]
  repeat' (first | ((with_reducible refine brC (fun _=>?_) fun _=>?_) <;> try (exfalso;omega)) | (with_reducible refine And.intro ?_ ?_; · omega) | simp -dsimp -implicitDefEqProofs (disch:=omega) only [↓Q0 5,↓Q2 5,VCA,Z1,↓Q3,Nat.reduceEqDiff,Nat.reduceBEq,Nat.reduceAdd,Nat.reduceSub,Nat.reduceMul,Nat.reduceLT,Nat.reduceLeDiff,↓reduceIte,reduceCtorEq,Z3,Q6,SOp.rd,SI.rd,SX.rd,rdL,rdO,rdP,Q5,Q4,Q1,Q8,Q7,Z0,implies_true,forall_const,forall_eq,ne_eq,exists_eq_right_right,exists_eq_right,exists_eq_left,exists_eq_left',Q9,Z5,Z7,Z6,J9])
  all_goals exact ⟨Sub.refl _,by simp_all⟩
 ·simp -dsimp -implicitDefEqProofs (disch:=omega) only [↓Q0 5,↓Q2 5,VCA,Z1,↓Q3,Nat.reduceEqDiff,Nat.reduceBEq,Nat.reduceAdd,Nat.reduceSub,Nat.reduceMul,Nat.reduceLT,Nat.reduceLeDiff,↓reduceIte,reduceCtorEq,Z3,Q6,SOp.rd,SI.rd,SX.rd,rdL,rdO,rdP,Q5,Q4,Q1,Q8,Q7,Z0,implies_true,forall_const,forall_eq,ne_eq,exists_eq_right_right,exists_eq_right,exists_eq_left,exists_eq_left',Q9,Z5,Z7,Z6,J9,c37]
  repeat' (first | ((with_reducible refine brC (fun _=>?_) fun _=>?_) <;> try (exfalso;omega)) | (with_reducible refine And.intro ?_ ?_; · omega) | simp -dsimp -implicitDefEqProofs (disch:=omega) only [↓Q0 5,↓Q2 5,VCA,Z1,↓Q3,Nat.reduceEqDiff,Nat.reduceBEq,Nat.reduceAdd,Nat.reduceSub,Nat.reduceMul,Nat.reduceLT,Nat.reduceLeDiff,↓reduceIte,reduceCtorEq,Z3,Q6,SOp.rd,SI.rd,SX.rd,rdL,rdO,rdP,Q5,Q4,Q1,Q8,Q7,Z0,implies_true,forall_const,forall_eq,ne_eq,exists_eq_right_right,exists_eq_right,exists_eq_left,exists_eq_left',Q9,Z5,Z7,Z6,J9])
  all_goals first | (exfalso;omega) | exact ⟨Sub.refl _,by rw [Bool.eq_iff_iff];simp [h1]⟩
theorem len0 {α:Type} (l:List α):((l.length:Int)=0)=(l=[]):=by rw [<-List.length_eq_zero_iff];exact propext (by omega)
theorem len0b {α:Type} (l:List α) [DecidableEq α]:((l.length:Int)==0)=decide (l=[]):=by
 rw [Bool.eq_iff_iff,beq_iff_eq,decide_eq_true_iff,len0]
def c27:SFun:=⟨.seq (.reg [o 1 (.boxF 35 6 (.t 0)),o 2 (.mv (.c (.bool false)))]) (.seq (.dreg [(o 5 (.fldA 0 (.t 1)),none),(o 6 (.ld 1 false (.t 5)),none),(o 7 (.bin .eql (.t 6) (.c (.int .i64 2))),none),(o 8 (.fldA 0 (.t 1)),none),(o 9 (.ld 1 false (.t 8)),none),(o 10 (.bin .eql (.t 9) (.c (.int .i64 3))),none),(o 11 (.mv (.t 10)),none),(⟨some 12,.fldA 0 (.t 1),some (11,false)⟩,none),(⟨some 13,.ld 1 false (.t 12),some (11,false)⟩,none),(⟨some 14,.bin .eql (.t 13) (.c (.int .i64 4)),some (11,false)⟩,none),(o 15 (.pick (.t 11) (.c (.bool true)) (.t 14)),none),(o 3 (.mv (.t 7)),none),(o 4 (.mv (.t 15)),none)]) (.seq (.reg [o 16 (.mv (.t 3)),o 17 (.mv (.t 16)),⟨some 18,.fldA 0 (.t 1),some (17,false)⟩,⟨some 19,.ld 1 false (.t 18),some (17,false)⟩,⟨some 20,.bin .eql (.t 19) (.c (.int .i64 5)),some (17,false)⟩,o 21 (.pick (.t 17) (.c (.bool true)) (.t 20)),o 22 (.mv (.t 21)),⟨some 23,.fldA 1 (.t 1),some (22,false)⟩,⟨some 24,.ld 1 false (.t 23),some (22,false)⟩,⟨some 25,.bin .eql (.t 24) (.c (.str [])),some (22,false)⟩,o 26 (.pick (.t 22) (.c (.bool true)) (.t 25)),o 27 (.mv (.t 26)),⟨some 28,.mv (.t 3),some (27,true)⟩,⟨some 29,.mv (.t 28),some (27,true)⟩,⟨some 30,.fldA 2 (.t 1),some (29,false)⟩,⟨some 31,.ld 1 false (.t 30),some (29,false)⟩,⟨some 32,.len (.t 31),some (29,false)⟩,⟨some 33,.bin .eql (.t 32) (.c (.int .i64 0)),some (29,false)⟩,⟨some 34,.pick (.t 29) (.c (.bool true)) (.t 33),some (27,true)⟩,o 35 (.pick (.t 27) (.t 34) (.c (.bool false))),o 36 (.mv (.t 35)),⟨some 37,.mv (.t 4),some (36,true)⟩,⟨some 38,.mv (.t 37),some (36,true)⟩,⟨some 39,.fldA 3 (.t 1),some (38,false)⟩,⟨some 40,.ld 1 false (.t 39),some (38,false)⟩,⟨some 41,.bin .eql (.t 40) (.c (.str [])),some (38,false)⟩,⟨some 42,.pick (.t 38) (.c (.bool true)) (.t 41),some (36,true)⟩,o 43 (.pick (.t 36) (.t 42) (.c (.bool false))),o 44 (.mv (.t 43)),⟨some 45,.fldA 0 (.t 1),some (44,true)⟩,⟨some 46,.ld 1 false (.t 45),some (44,true)⟩,⟨some 47,.pcall 37 [.t 46],some (44,true)⟩,⟨some 48,.mv (.t 47),some (44,true)⟩,⟨some 49,.fldA 5 (.t 1),some (48,false)⟩,⟨some 50,.ld 1 false (.t 49),some (48,false)⟩,⟨some 51,.len (.t 50),some (48,false)⟩,⟨some 52,.bin .eql (.t 51) (.c (.int .i64 0)),some (48,false)⟩,⟨some 53,.pick (.t 48) (.c (.bool true)) (.t 52),some (44,true)⟩,o 54 (.pick (.t 44) (.t 53) (.c (.bool false))),o 2 (.mv (.t 54))]) .ret)),[.tmp 2]⟩
theorem hc27:Y6 Tryz.prog {pure:=[37]} Tryz.f27=some c27:=by kernel_rfl
theorem hn27 : (Tryz.f27.name == "runtime.NumGoroutine") = false := by kernel_rfl
theorem bare_ok (x:HNode):PCalls (Pg G) 27 [.agg (Z6 x)] (.bool (bareM x)):=fun h=>by
 refine Z4 Tryz.func27 hn27 hc27 (by rw [Tryz.ntmps27];simp) (by rw [Tryz.ntmps27];decide) ?_
 simp -dsimp -implicitDefEqProofs (disch:=omega) only [↓Q0 11,↓Q2 11,↓Q0 17,↓Q2 17,↓Q0 22,↓Q2 22,↓Q0 27,↓Q2 27,↓Q0 29,↓Q2 29,↓Q0 36,↓Q2 36,↓Q0 38,↓Q2 38,↓Q0 44,↓Q2 44,↓Q0 48,↓Q2 48,VCA,Z1,↓Q3,Nat.reduceEqDiff,Nat.reduceBEq,Nat.reduceAdd,Nat.reduceSub,Nat.reduceMul,Nat.reduceLT,Nat.reduceLeDiff,↓reduceIte,reduceCtorEq,Z3,Q6,SOp.rd,SI.rd,SX.rd,rdL,rdO,rdP,Q5,Q4,Q1,Q8,Q7,Z0,implies_true,forall_const,forall_eq,ne_eq,exists_eq_right_right,exists_eq_right,exists_eq_left,exists_eq_left',Q9,Z5,Z7,Z6,J9,c27,Z6]
 repeat' (first | ((with_reducible refine brC (fun _=>?_) fun _=>?_) <;> try (exfalso;omega)) | (with_reducible apply pcallE.of; · exact parent_ok x.kind) | (with_reducible refine And.intro ?_ ?_; · omega) | simp -dsimp -implicitDefEqProofs (disch:=omega) only [↓Q0 11,↓Q2 11,↓Q0 17,↓Q2 17,↓Q0 22,↓Q2 22,↓Q0 27,↓Q2 27,↓Q0 29,↓Q2 29,↓Q0 36,↓Q2 36,↓Q0 38,↓Q2 38,↓Q0 44,↓Q2 44,↓Q0 48,↓Q2 48,VCA,Z1,↓Q3,Nat.reduceEqDiff,Nat.reduceBEq,Nat.reduceAdd,Nat.reduceSub,Nat.reduceMul,Nat.reduceLT,Nat.reduceLeDiff,↓reduceIte,reduceCtorEq,Z3,Q6,SOp.rd,SI.rd,SX.rd,rdL,rdO,rdP,Q5,Q4,Q1,Q8,Q7,Z0,implies_true,forall_const,forall_eq,ne_eq,exists_eq_right_right,exists_eq_right,exists_eq_left,exists_eq_left',Q9,Z5,Z7,Z6,J9])
 all_goals (refine ⟨Sub.refl _,?_⟩;simp_all [bareM,len0,len0b])
theorem lt400 (n:Nat):((400:Int)<(n:Int))=(400<n):=propext (by omega)
def c15:SFun:=⟨.seq (.reg [o 1 (.boxF 35 6 (.t 0)),o 2 (.mv (.c (.int .i64 0)))]) (.seq (.block 0 (.seq (.reg [o 5 (.fldA 0 (.t 1)),o 6 (.ld 1 false (.t 5)),o 7 (.bin .lss (.t 6) (.c (.int .i64 1))),o 8 (.mv (.t 7)),⟨some 9,.fldA 0 (.t 1),some (8,false)⟩,⟨some 10,.ld 1 false (.t 9),some (8,false)⟩,⟨some 11,.bin .gtr (.t 10) (.c (.int .i64 5)),some (8,false)⟩,o 12 (.pick (.t 8) (.c (.bool true)) (.t 11)),o 13 (.mv (.t 12)),⟨some 14,.ld 6 true (.t 1),some (13,false)⟩,⟨some 15,.pcall 27 [.t 14],some (13,false)⟩,⟨some 16,.un .not (.t 15),some (13,false)⟩,o 17 (.pick (.t 13) (.c (.bool true)) (.t 16)),o 4 (.mv (.t 17))]) (.cond (.t 4) (.seq (.reg [o 2 (.mv (.c (.int .i64 7)))]) .ret) (.seq (.reg [o 19 (.fldA 0 (.t 1)),o 20 (.ld 1 false (.t 19)),o 21 (.bin .eql (.t 20) (.c (.int .i64 2))),o 22 (.mv (.t 21)),⟨some 23,.fldA 1 (.t 1),some (22,true)⟩,⟨some 24,.ld 1 false (.t 23),some (22,true)⟩,⟨some 25,.pcall 28 [.t 24],some (22,true)⟩,⟨some 26,.un .not (.t 25),some (22,true)⟩,o 27 (.pick (.t 22) (.t 26) (.c (.bool false))),o 18 (.mv (.t 27))]) (.cond (.t 18) (.seq (.reg [o 2 (.mv (.c (.int .i64 3)))]) .ret) .skip))))) (.seq (.seq (.reg [o 28 (.fldA 2 (.t 1)),o 29 (.ld 1 false (.t 28)),o 30 (.pcall 29 [.t 29]),o 3 (.mv (.t 30))]) (.seq (.reg [o 31 (.mv (.t 3)),o 32 (.bin .neq (.t 31) (.c (.int .i64 0)))]) (.cond (.t 32) (.seq (.reg [o 33 (.mv (.t 3)),o 2 (.mv (.t 33))]) .ret) .skip))) (.seq (.seq (.reg [o 34 (.fldA 3 (.t 1)),o 35 (.ld 1 false (.t 34)),o 36 (.lenS (.t 35)),o 37 (.bin .gtr (.t 36) (.c (.int .i64 400))),o 38 (.mv (.t 37)),⟨some 39,.fldA 1 (.t 1),some (38,false)⟩,⟨some 40,.ld 1 false (.t 39),some (38,false)⟩,⟨some 41,.lenS (.t 40),some (38,false)⟩,⟨some 42,.bin .gtr (.t 41) (.c (.int .i64 400)),some (38,false)⟩,o 43 (.pick (.t 38) (.c (.bool true)) (.t 42))]) (.cond (.t 43) (.seq (.reg [o 2 (.mv (.c (.int .i64 2)))]) .ret) .skip)) (.seq (.reg [o 2 (.mv (.c (.int .i64 0)))]) .ret)))),[.tmp 2]⟩
theorem hc15:Y6 Tryz.prog {pure:=[27,28,29]} Tryz.f15=some c15:=by kernel_rfl
theorem hn15 : (Tryz.f15.name == "runtime.NumGoroutine") = false := by kernel_rfl
theorem one_ok' (x:HNode) (hx:NodeSm x):PCalls (Pg G) 15 [.agg (Z6 x)] (Y0 (nodeE x)):=fun h=>by
 refine Z4 Tryz.func15 hn15 hc15 (by rw [Tryz.ntmps15];simp) (by rw [Tryz.ntmps15];decide) ?_
 simp -dsimp -implicitDefEqProofs (disch:=omega) only [↓Q0 8,↓Q2 8,↓Q0 13,↓Q2 13,↓Q0 22,↓Q2 22,↓Q0 38,↓Q2 38,VCA,Z1,↓Q3,Nat.reduceEqDiff,Nat.reduceBEq,Nat.reduceAdd,Nat.reduceSub,Nat.reduceMul,Nat.reduceLT,Nat.reduceLeDiff,↓reduceIte,reduceCtorEq,Z3,Q6,SOp.rd,SI.rd,SX.rd,rdL,rdO,rdP,Q5,Q4,Q1,Q8,Q7,Z0,implies_true,forall_const,forall_eq,ne_eq,exists_eq_right_right,exists_eq_right,exists_eq_left,exists_eq_left',Q9,Z5,Z7,Z6,J9,c15,Z6]
 have hb:PCalls (Pg G) 27 [.agg [Y0 x.kind,.str x.name,sl Z5 x.attrs,.str x.text,Y0 x.parent,sl Z7 x.kids]] (.bool (bareM x)):=bare_ok x
 repeat' (first | ((with_reducible refine brC (fun _=>?_) fun _=>?_) <;> try (exfalso;omega)) | (with_reducible apply pcallE.of; · exact hb) | (with_reducible apply pcallE.of; · exact name_ok x.name hx.name) | (with_reducible apply pcallE.of; · exact attrs_ok x.attrs hx.attrs (fun a ha=>(hx.each a ha).1)) | (with_reducible refine And.intro ?_ ?_; · omega) | simp -dsimp -implicitDefEqProofs (disch:=omega) only [↓Q0 8,↓Q2 8,↓Q0 13,↓Q2 13,↓Q0 22,↓Q2 22,↓Q0 38,↓Q2 38,VCA,Z1,↓Q3,Nat.reduceEqDiff,Nat.reduceBEq,Nat.reduceAdd,Nat.reduceSub,Nat.reduceMul,Nat.reduceLT,Nat.reduceLeDiff,↓reduceIte,reduceCtorEq,Z3,Q6,SOp.rd,SI.rd,SX.rd,rdL,rdO,rdP,Q5,Q4,Q1,Q8,Q7,Z0,implies_true,forall_const,forall_eq,ne_eq,exists_eq_right_right,exists_eq_right,exists_eq_left,exists_eq_left',Q9,Z5,Z7,Z6,J9])
 all_goals (clear hb hx;refine ⟨Sub.refl _,?_⟩;simp_all [nodeE,lt400];try (first | omega | (intro hh;omega) | (rw [if_neg (by omega),if_neg (by omega)])))
def J6 (b:Bool):List AVal:=[.bool b]
instance:LenE J6 1:=⟨fun _=>rfl⟩
theorem upF_top {d:HDoc} {n:Int} (h:¬ 0<=(nd d n).parent) (f:Nat):upF f d n=0:=by cases f <;> simp [upF,h]
def c17:SFun:=⟨.seq (.reg [o 2 (.boxF 24 2 (.t 0)),o 4 (.mv (.c (.int .i64 0)))]) (.seq (.block 0 (.loop (.seq (.seq (.reg [o 5 (.fldA 0 (.t 2)),o 6 (.ld 1 false (.t 5)),o 7 (.mv (.t 1)),o 8 (.idxA 6 (.t 6) (.t 7)),o 9 (.fldA 4 (.t 8)),o 10 (.ld 1 false (.t 9)),o 11 (.bin .geq (.t 10) (.c (.int .i64 0))),o 12 (.mv (.t 11)),⟨some 13,.mv (.t 4),some (12,true)⟩,⟨some 14,.fldA 0 (.t 2),some (12,true)⟩,⟨some 15,.ld 1 false (.t 14),some (12,true)⟩,⟨some 16,.len (.t 15),some (12,true)⟩,⟨some 17,.bin .leq (.t 13) (.t 16),some (12,true)⟩,o 18 (.pick (.t 12) (.t 17) (.c (.bool false)))]) (.cond (.t 18) .skip (.exit 0))) (.seq (.block 1 (.reg [o 25 (.mv (.t 4)),o 26 (.bin .add (.t 25) (.c (.int .i64 1))),o 4 (.mv (.t 26))])) (.reg [o 19 (.fldA 0 (.t 2)),o 20 (.ld 1 false (.t 19)),o 21 (.mv (.t 1)),o 22 (.idxA 6 (.t 20) (.t 21)),o 23 (.fldA 4 (.t 22)),o 24 (.ld 1 false (.t 23)),o 1 (.mv (.t 24))]))))) (.seq (.reg [o 27 (.mv (.t 4)),o 4 (.mv (.t 27))]) .ret)),[.tmp 4]⟩
theorem hc17:Y6 Tryz.prog {} Tryz.f17=some c17:=by kernel_rfl
theorem hn17 : (Tryz.f17.name == "runtime.NumGoroutine") = false := by kernel_rfl
theorem up_ok (d:HDoc) (sm:DocSm d) (hP:∀ n,inD d n->0<=(nd d n).parent->inD d (nd d n).parent) (n:Int) (hn:inD d n):PCalls (Pg G) 17 [.agg (J9 d),Y0 n] (Y0 (up d n)):=fun h=>by
 have hl:=sm.len
 refine Z4 Tryz.func17 hn17 hc17 (by rw [Tryz.ntmps17];simp) (by rw [Tryz.ntmps17];decide) ?_
 simp -dsimp -implicitDefEqProofs (disch:=omega) only [↓Q0 12,↓Q2 12,VCA,Z1,↓Q3,Nat.reduceEqDiff,Nat.reduceBEq,Nat.reduceAdd,Nat.reduceSub,Nat.reduceMul,Nat.reduceLT,Nat.reduceLeDiff,↓reduceIte,reduceCtorEq,Z3,Q6,SOp.rd,SI.rd,SX.rd,rdL,rdO,rdP,Q5,Q4,Q1,Q8,Q7,Z0,implies_true,forall_const,forall_eq,ne_eq,exists_eq_right_right,exists_eq_right,exists_eq_left,exists_eq_left',Q9,Z5,Z7,Z6,J9,J6,c17,J9]
 refine LoopVC.intro (fun m e h'=>∃ (c:Int) (k:Nat),k<=d.nodes.length+1/\m=d.nodes.length+1-k/\inD d c/\e 1=Y0 c/\e 2=.pin (J9 d)/\e 4=Y0 k/\h'=h/\k+upF (d.nodes.length+1-k) d c=up d n) (d.nodes.length+1) ⟨n,0,by omega,rfl,hn,rfl,rfl,rfl,rfl,by simp [up]⟩ ?_
 rintro m e h' ⟨c,k,hk,rfl,hc,he1,he2,he4,rfl,hu⟩
 have hc0:=hc.1
 have hc1:=hc.2
 simp -dsimp -implicitDefEqProofs (disch:=omega) only [↓Q0 12,↓Q2 12,VCA,Z1,↓Q3,Nat.reduceEqDiff,Nat.reduceBEq,Nat.reduceAdd,Nat.reduceSub,Nat.reduceMul,Nat.reduceLT,Nat.reduceLeDiff,↓reduceIte,reduceCtorEq,Z3,Q6,SOp.rd,SI.rd,SX.rd,rdL,rdO,rdP,Q5,Q4,Q1,Q8,Q7,Z0,implies_true,forall_const,forall_eq,ne_eq,exists_eq_right_right,exists_eq_right,exists_eq_left,exists_eq_left',Q9,Z5,Z7,Z6,J9,J6,he1,he2,he4,J9]
 refine ⟨by omega,?_⟩
 have e0:nth d.nodes c.toNat=nd d c:=rfl
 rw [e0]
 refine Br.dec (fun h1=>?_) (fun h1=>?_)
 ·simp -dsimp -implicitDefEqProofs (disch:=omega) only [↓Q0 12,↓Q2 12,VCA,Z1,↓Q3,Nat.reduceEqDiff,Nat.reduceBEq,Nat.reduceAdd,Nat.reduceSub,Nat.reduceMul,Nat.reduceLT,Nat.reduceLeDiff,↓reduceIte,reduceCtorEq,Z3,Q6,SOp.rd,SI.rd,SX.rd,rdL,rdO,rdP,Q5,Q4,Q1,Q8,Q7,Z0,implies_true,forall_const,forall_eq,ne_eq,exists_eq_right_right,exists_eq_right,exists_eq_left,exists_eq_left',Q9,Z5,Z7,Z6,J9,J6,he1,he2,he4,J9]
  refine Br.dec (fun h2=>?_) (fun h2=>?_)
  ·simp -dsimp -implicitDefEqProofs (disch:=omega) only [↓Q0 12,↓Q2 12,VCA,Z1,↓Q3,Nat.reduceEqDiff,Nat.reduceBEq,Nat.reduceAdd,Nat.reduceSub,Nat.reduceMul,Nat.reduceLT,Nat.reduceLeDiff,↓reduceIte,reduceCtorEq,Z3,Q6,SOp.rd,SI.rd,SX.rd,rdL,rdO,rdP,Q5,Q4,Q1,Q8,Q7,Z0,implies_true,forall_const,forall_eq,ne_eq,exists_eq_right_right,exists_eq_right,exists_eq_left,exists_eq_left',Q9,Z5,Z7,Z6,J9,J6,he1,he2,he4,J9]
   refine ⟨by omega,_,?_,(nd d c).parent,k+1,by omega,rfl,hP c hc h1,rfl,by omega,?_⟩
   ·omega
   ·obtain ⟨f,hf⟩:∃ f,d.nodes.length+1-k=f+1:=⟨d.nodes.length-k,by omega⟩
    rw [hf,upF,if_pos h1] at hu
    have e2:d.nodes.length+1-(k+1)=f:=by omega
    rw [e2];omega
  ·simp -dsimp -implicitDefEqProofs (disch:=omega) only [↓Q0 12,↓Q2 12,VCA,Z1,↓Q3,Nat.reduceEqDiff,Nat.reduceBEq,Nat.reduceAdd,Nat.reduceSub,Nat.reduceMul,Nat.reduceLT,Nat.reduceLeDiff,↓reduceIte,reduceCtorEq,Z3,Q6,SOp.rd,SI.rd,SX.rd,rdL,rdO,rdP,Q5,Q4,Q1,Q8,Q7,Z0,implies_true,forall_const,forall_eq,ne_eq,exists_eq_right_right,exists_eq_right,exists_eq_left,exists_eq_left',Q9,Z5,Z7,Z6,J9,J6,he4]
   have hk':k=d.nodes.length+1:=by omega
   subst hk'
   rw [Nat.sub_self,upF] at hu
   exact ⟨Sub.refl _,by omega⟩
 ·simp -dsimp -implicitDefEqProofs (disch:=omega) only [↓Q0 12,↓Q2 12,VCA,Z1,↓Q3,Nat.reduceEqDiff,Nat.reduceBEq,Nat.reduceAdd,Nat.reduceSub,Nat.reduceMul,Nat.reduceLT,Nat.reduceLeDiff,↓reduceIte,reduceCtorEq,Z3,Q6,SOp.rd,SI.rd,SX.rd,rdL,rdO,rdP,Q5,Q4,Q1,Q8,Q7,Z0,implies_true,forall_const,forall_eq,ne_eq,exists_eq_right_right,exists_eq_right,exists_eq_left,exists_eq_left',Q9,Z5,Z7,Z6,J9,J6,he4]
  rw [upF_top h1] at hu
  exact ⟨Sub.refl _,by omega⟩
def SeenI (d:HDoc) (i k:Nat) (sn:List Bool):Prop:=sn.length=d.nodes.length /\ ∀ j,j<d.nodes.length->(nth sn j=true↔(∃ i',i'<i/\(j:Int)∈(nth d.nodes i').kids)\/(j:Int)∈(nth d.nodes i).kids.take k)
def QJ (d:HDoc):Int:=
 if fe d.nodes.length (WY d)≠0 then fe d.nodes.length (WY d)
 else if fe d.nodes.length (parE d)≠0 then fe d.nodes.length (parE d)
 else if (nd d 0).parent ≠ -1 then 3 else 0
theorem seen_zero (d:HDoc):SeenI d 0 0 (List.replicate d.nodes.length false):=by
 refine ⟨by simp,fun j hj=>?_⟩
 have:nth (List.replicate d.nodes.length false) j=false:=by simp [nth,List.getD_eq_getElem?_getD,List.getElem?_replicate,hj]
 rw [this]
 simp
theorem seen_next {d:HDoc} {i:Nat} {sn:List Bool} (h:SeenI d i (nth d.nodes i).kids.length sn):SeenI d (i+1) 0 sn:=by
 refine ⟨h.1,fun j hj=>?_⟩
 rw [h.2 j hj,List.take_length]
 constructor
 ·rintro (⟨i',h1,h2⟩ | h1)
  ·exact .inl ⟨i',by omega,h2⟩
  ·exact .inl ⟨i,by omega,h1⟩
 ·rintro (⟨i',h1,h2⟩ | h1)
  ·by_cases hi:i'=i
   ·subst hi;exact .inr h2
   ·exact .inl ⟨i',by omega,h2⟩
  ·simp at h1
theorem seen_kid {d:HDoc} {i k:Nat} {sn:List Bool} (h:SeenI d i k sn) (hk:k<(nth d.nodes i).kids.length) (hd:inD d (nth (nth d.nodes i).kids k)):SeenI d i (k+1) (sn.set (nth (nth d.nodes i).kids k).toNat true):=by
 have hn:=hd.nat
 refine ⟨by rw [List.length_set];exact h.1,fun j hj=>?_⟩
 rw [nth_set _ _ _ _ (by rw [h.1];exact hn.1),KZ hk,List.mem_append,List.mem_singleton]
 split
 ·rename_i hj'
  subst hj'
  rw [hn.2]
  simp
 ·rename_i hj'
  rw [h.2 j hj]
  constructor
  ·rintro (h1 | h1)
   ·exact .inl h1
   ·exact .inr (.inl h1)
  ·rintro (h1 | h1 | h1)
   ·exact .inl h1
   ·exact .inr h1
   ·exact absurd (by omega) hj'
theorem seen_is {d:HDoc} {i k:Nat} {sn:List Bool} (h:SeenI d i k sn) (hi:i<d.nodes.length) (h0:∀ j,j<i->WY d j=0) {c:Int} (hc:inD d c) (hp:(nd d c).parent=i):nth sn c.toNat=true↔c∈(nth d.nodes i).kids.take k:=by
 rw [h.2 _ hc.nat.1,hc.nat.2]
 constructor
 ·rintro (⟨i',h1,h2⟩ | h1)
  ·obtain ⟨q,hq,rfl⟩:=mem_nth h2
   have:=fe_zero (h0 i' h1) q hq
   unfold kidE at this
   simp only at this
   split at this
   ·omega
   ·rename_i hn
    simp only [not_or,Classical.not_not] at hn
    omega
  ·exact h1
 ·exact .inr
theorem seen_end {d:HDoc} {sn:List Bool} (h:SeenI d d.nodes.length 0 sn) (h0:∀ j,j<d.nodes.length->WY d j=0) {i:Nat} (hi:i<d.nodes.length):nth sn i=true↔(inD d (nth d.nodes i).parent/\(i:Int)∈(nd d (nth d.nodes i).parent).kids):=by
 rw [h.2 _ hi]
 constructor
 ·rintro (⟨i',h1,h2⟩ | h1)
  ·obtain ⟨q,hq,he⟩:=mem_nth h2
   have:=fe_zero (h0 i' h1) q hq
   unfold kidE at this
   simp only [he] at this
   split at this
   ·omega
   ·rename_i hn
    simp only [not_or,Classical.not_not] at hn
    rw [nd_nat] at hn
    rw [hn.2.1,nd_nat]
    exact ⟨inD_nat.2 h1,h2⟩
  ·simp at h1
 ·intro ⟨h1,h2⟩
  exact .inl ⟨_,h1.nat.1,h2⟩
theorem eBool_set (sn:List Bool) (k:Nat) (b:Bool):(sn.map J6).set k [.bool b]=(sn.set k b).map J6:=by
 rw [List.map_set];rfl
def c16:SFun:=⟨.seq (.reg [o 1 (.boxF 24 2 (.t 0)),o 2 (.mv (.c (.int .i64 0)))]) (.seq (.reg [o 10 (.fldA 0 (.t 1)),o 11 (.ld 1 false (.t 10)),o 12 (.len (.t 11)),o 13 (.mks 4 1 1 [.bool false] (.t 12) (.t 12)),o 3 (.mv (.t 13))]) (.seq (.seq (.reg [o 14 (.fldA 0 (.t 1)),o 15 (.ld 1 false (.t 14)),o 16 (.len (.t 15)),o 17 (.mv (.c (.int .i64 0)))]) (.block 0 (.loop (.seq (.reg [o 18 (.bin .lss (.t 17) (.t 16))]) (.seq (.cond (.t 18) .skip (.exit 0)) (.seq (.block 1 (.seq (.reg [o 19 (.mv (.t 17)),o 20 (.idxA 6 (.t 15) (.t 17)),o 21 (.ld 6 true (.t 20)),o 5 (.new 35 6 [.int .i64 0,.str [],.emp,.str [],.int .i64 0,.emp]),o 4 (.mv (.t 19)),⟨none,.st 6 (.t 5) (.t 21),none⟩]) (.seq (.reg [o 22 (.fldA 5 (.t 5)),o 23 (.ld 1 false (.t 22)),o 24 (.len (.t 23)),o 25 (.mv (.c (.int .i64 0)))]) (.block 2 (.loop (.seq (.reg [o 26 (.bin .lss (.t 25) (.t 24))]) (.seq (.cond (.t 26) .skip (.exit 2)) (.seq (.block 3 (.seq (.reg [o 27 (.idxA 1 (.t 23) (.t 25)),o 28 (.ld 1 false (.t 27)),o 7 (.mv (.t 28))]) (.seq (.block 4 (.seq (.reg [o 30 (.mv (.t 7)),o 31 (.bin .lss (.t 30) (.c (.int .i64 0))),o 32 (.mv (.t 31)),⟨some 33,.mv (.t 7),some (32,false)⟩,⟨some 34,.mv (.t 3),some (32,false)⟩,⟨some 35,.len (.t 34),some (32,false)⟩,⟨some 36,.bin .geq (.t 33) (.t 35),some (32,false)⟩,o 37 (.pick (.t 32) (.c (.bool true)) (.t 36)),o 38 (.mv (.t 37)),⟨some 39,.fldA 0 (.t 1),some (38,false)⟩,⟨some 40,.ld 1 false (.t 39),some (38,false)⟩,⟨some 41,.mv (.t 7),some (38,false)⟩,⟨some 42,.idxA 6 (.t 40) (.t 41),some (38,false)⟩,⟨some 43,.fldA 4 (.t 42),some (38,false)⟩,⟨some 44,.ld 1 false (.t 43),some (38,false)⟩,⟨some 45,.mv (.t 4),some (38,false)⟩,⟨some 46,.bin .neq (.t 44) (.t 45),some (38,false)⟩,o 47 (.pick (.t 38) (.c (.bool true)) (.t 46)),o 48 (.mv (.t 47)),⟨some 49,.mv (.t 3),some (48,false)⟩,⟨some 50,.mv (.t 7),some (48,false)⟩,⟨some 51,.idxA 1 (.t 49) (.t 50),some (48,false)⟩,⟨some 52,.ld 1 false (.t 51),some (48,false)⟩,o 53 (.pick (.t 48) (.c (.bool true)) (.t 52)),o 29 (.mv (.t 53))]) (.cond (.t 29) (.seq (.reg [o 2 (.mv (.c (.int .i64 3)))]) .ret) (.seq (.reg [o 55 (.mv (.t 4)),o 56 (.bin .eql (.t 55) (.c (.int .i64 0))),o 57 (.mv (.t 56)),⟨some 58,.fldA 0 (.t 1),some (57,true)⟩,⟨some 59,.ld 1 false (.t 58),some (57,true)⟩,⟨some 60,.mv (.t 7),some (57,true)⟩,⟨some 61,.idxA 6 (.t 59) (.t 60),some (57,true)⟩,⟨some 62,.fldA 0 (.t 61),some (57,true)⟩,⟨some 63,.ld 1 false (.t 62),some (57,true)⟩,⟨some 64,.bin .eql (.t 63) (.c (.int .i64 3)),some (57,true)⟩,o 65 (.pick (.t 57) (.t 64) (.c (.bool false))),o 54 (.mv (.t 65))]) (.cond (.t 54) (.seq (.reg [o 2 (.mv (.c (.int .i64 7)))]) .ret) .skip))))) (.reg [o 66 (.mv (.t 3)),o 67 (.mv (.t 7)),o 68 (.idxA 1 (.t 66) (.t 67)),⟨none,.st 1 (.t 68) (.c (.bool true)),none⟩])))) (.reg [o 69 (.bin .add (.t 25) (.c (.int .i64 1))),o 25 (.mv (.t 69))]))))))))) (.reg [o 70 (.bin .add (.t 17) (.c (.int .i64 1))),o 17 (.mv (.t 70))]))))))) (.seq (.seq (.reg [o 71 (.fldA 0 (.t 1)),o 72 (.ld 1 false (.t 71)),o 73 (.len (.t 72)),o 74 (.mv (.c (.int .i64 0)))]) (.block 5 (.loop (.seq (.reg [o 75 (.bin .lss (.t 74) (.t 73))]) (.seq (.cond (.t 75) .skip (.exit 5)) (.seq (.block 6 (.seq (.reg [o 76 (.mv (.t 74)),o 77 (.idxA 6 (.t 72) (.t 74)),o 78 (.ld 6 true (.t 77)),o 9 (.new 35 6 [.int .i64 0,.str [],.emp,.str [],.int .i64 0,.emp]),o 8 (.mv (.t 76)),⟨none,.st 6 (.t 9) (.t 78),none⟩]) (.seq (.reg [o 79 (.fldA 4 (.t 9)),o 80 (.ld 1 false (.t 79)),o 81 (.bin .neq (.t 80) (.c (.int .i64 (-1)))),o 82 (.mv (.t 81)),⟨some 83,.mv (.t 3),some (82,true)⟩,⟨some 84,.mv (.t 8),some (82,true)⟩,⟨some 85,.idxA 1 (.t 83) (.t 84),some (82,true)⟩,⟨some 86,.ld 1 false (.t 85),some (82,true)⟩,⟨some 87,.un .not (.t 86),some (82,true)⟩,o 88 (.pick (.t 82) (.t 87) (.c (.bool false)))]) (.cond (.t 88) (.seq (.reg [o 2 (.mv (.c (.int .i64 3)))]) .ret) .skip)))) (.reg [o 89 (.bin .add (.t 74) (.c (.int .i64 1))),o 74 (.mv (.t 89))]))))))) (.seq (.seq (.reg [o 90 (.fldA 0 (.t 1)),o 91 (.ld 1 false (.t 90)),o 92 (.idxA 6 (.t 91) (.c (.int .i64 0))),o 93 (.fldA 4 (.t 92)),o 94 (.ld 1 false (.t 93)),o 95 (.bin .neq (.t 94) (.c (.int .i64 (-1))))]) (.cond (.t 95) (.seq (.reg [o 2 (.mv (.c (.int .i64 3)))]) .ret) .skip)) (.seq (.reg [o 2 (.mv (.c (.int .i64 0)))]) .ret))))),[.tmp 2]⟩
theorem hc16:Y6 Tryz.prog {} Tryz.f16=some c16:=by kernel_rfl
theorem hn16 : (Tryz.f16.name == "runtime.NumGoroutine") = false := by kernel_rfl
theorem kids_ok (d:HDoc) (sm:DocSm d) (hp:0<d.nodes.length):PCalls (Pg G) 16 [.agg (J9 d)] (Y0 (QJ d)):=fun h=>by
 have hl:=sm.len
 refine Z4 Tryz.func16 hn16 hc16 (by rw [Tryz.ntmps16];simp) (by rw [Tryz.ntmps16];decide) ?_
 simp -dsimp -implicitDefEqProofs (disch:=omega) only [↓Q0 32,↓Q2 32,↓Q0 38,↓Q2 38,↓Q0 48,↓Q2 48,↓Q0 57,↓Q2 57,↓Q0 82,↓Q2 82,VCA,Z1,↓Q3,Nat.reduceEqDiff,Nat.reduceBEq,Nat.reduceAdd,Nat.reduceSub,Nat.reduceMul,Nat.reduceLT,Nat.reduceLeDiff,↓reduceIte,reduceCtorEq,Z3,Q6,SOp.rd,SI.rd,SX.rd,rdL,rdO,rdP,Q5,Q4,Q1,Q8,Q7,Z0,implies_true,forall_const,forall_eq,ne_eq,exists_eq_right_right,exists_eq_right,exists_eq_left,exists_eq_left',Q9,Z5,Z7,Z6,J9,J6,c16,J9]
 refine ⟨by omega,by omega,by omega,by omega,fun r hr=>?_⟩
 have S0:Sim.Sub h (upd h r (some ⟨.t 4,1,List.replicate d.nodes.length [.bool false]⟩)):=(Sub.refl h).upd hr
 refine LoopVC.intro (fun m e h'=>∃ (i:Nat) (sn:List Bool),i<=d.nodes.length/\m=d.nodes.length-i/\e 1=.pin (J9 d)/\e 3=.osl r 1 0 d.nodes.length/\e 15=sl Z6 d.nodes/\e 16=Y0 d.nodes.length/\e 17=Y0 i/\Sim.Sub h h' /\
  h' r=some ⟨.t 4,1,sn.map J6⟩/\SeenI d i 0 sn /\ ∀ j,j<i->WY d j=0) d.nodes.length ⟨0,List.replicate d.nodes.length false,by omega,by omega,rfl,rfl,rfl,rfl,rfl,S0,by simp [J6],seen_zero d,by omega⟩ ?_
 rintro m e h' ⟨i,sn,hi,rfl,he1,he3,he15,he16,he17,S,hr',hS,hj⟩
 simp -dsimp -implicitDefEqProofs (disch:=omega) only [↓Q0 32,↓Q2 32,↓Q0 38,↓Q2 38,↓Q0 48,↓Q2 48,↓Q0 57,↓Q2 57,↓Q0 82,↓Q2 82,VCA,Z1,↓Q3,Nat.reduceEqDiff,Nat.reduceBEq,Nat.reduceAdd,Nat.reduceSub,Nat.reduceMul,Nat.reduceLT,Nat.reduceLeDiff,↓reduceIte,reduceCtorEq,Z3,Q6,SOp.rd,SI.rd,SX.rd,rdL,rdO,rdP,Q5,Q4,Q1,Q8,Q7,Z0,implies_true,forall_const,forall_eq,ne_eq,exists_eq_right_right,exists_eq_right,exists_eq_left,exists_eq_left',Q9,Z5,Z7,Z6,J9,J6,he1,he3,he15,he16,he17]
 refine Br.dec (fun hlt=>?_) (fun hge=>?_)
 ·have hi':i<d.nodes.length:=by omega
  have smi:=sm.nth i
  simp -dsimp -implicitDefEqProofs (disch:=omega) only [↓Q0 32,↓Q2 32,↓Q0 38,↓Q2 38,↓Q0 48,↓Q2 48,↓Q0 57,↓Q2 57,↓Q0 82,↓Q2 82,VCA,Z1,↓Q3,Nat.reduceEqDiff,Nat.reduceBEq,Nat.reduceAdd,Nat.reduceSub,Nat.reduceMul,Nat.reduceLT,Nat.reduceLeDiff,↓reduceIte,reduceCtorEq,Z3,Q6,SOp.rd,SI.rd,SX.rd,rdL,rdO,rdP,Q5,Q4,Q1,Q8,Q7,Z0,implies_true,forall_const,forall_eq,ne_eq,exists_eq_right_right,exists_eq_right,exists_eq_left,exists_eq_left',Q9,Z5,Z7,Z6,J9,J6,he1,he3,he15,he16,he17]
  refine ⟨by omega,fun rx hrx=>?_⟩
  have hne:r≠rx:=fun e=>by subst e;rw [hr'] at hrx;cases hrx
  have S1:=S.upd (x:=some ⟨.t 35,6,[Z6 (nth d.nodes i)]⟩) (S.none hrx)
  have hr1:upd h' rx (some ⟨.t 35,6,[Z6 (nth d.nodes i)]⟩) r=some ⟨.t 4,1,sn.map J6⟩:=by rw [J7 _ _ hne];exact hr'
  have kl:=smi.kids
  refine LoopVC.intro (fun m e h'=>∃ (k:Nat) (sn:List Bool),k<=(nth d.nodes i).kids.length/\m=(nth d.nodes i).kids.length-k/\e 1=.pin (J9 d)/\e 3=.osl r 1 0 d.nodes.length/\e 4=Y0 i/\e 15=sl Z6 d.nodes/\e 16=Y0 d.nodes.length/\e 17=Y0 i /\
   e 23=sl Z7 (nth d.nodes i).kids/\e 24=Y0 (nth d.nodes i).kids.length/\e 25=Y0 k/\Sim.Sub h h'/\h' r=some ⟨.t 4,1,sn.map J6⟩/\SeenI d i k sn /\ ∀ j,j<k->kidE d i j=0) (nth d.nodes i).kids.length ⟨0,sn,by omega,by omega,he1,he3,rfl,he15,he16,he17,rfl,rfl,rfl,S1,hr1,hS,by omega⟩ ?_
  rintro m e h' ⟨k,sn,hk,rfl,he1,he3,he4,he15,he16,he17,he23,he24,he25,S,hr',hS,hk0⟩
  have hsl:=hS.1
  simp -dsimp -implicitDefEqProofs (disch:=omega) only [↓Q0 32,↓Q2 32,↓Q0 38,↓Q2 38,↓Q0 48,↓Q2 48,↓Q0 57,↓Q2 57,↓Q0 82,↓Q2 82,VCA,Z1,↓Q3,Nat.reduceEqDiff,Nat.reduceBEq,Nat.reduceAdd,Nat.reduceSub,Nat.reduceMul,Nat.reduceLT,Nat.reduceLeDiff,↓reduceIte,reduceCtorEq,Z3,Q6,SOp.rd,SI.rd,SX.rd,rdL,rdO,rdP,Q5,Q4,Q1,Q8,Q7,Z0,implies_true,forall_const,forall_eq,ne_eq,exists_eq_right_right,exists_eq_right,exists_eq_left,exists_eq_left',Q9,Z5,Z7,Z6,J9,J6,he1,he3,he4,he15,he16,he17,he23,he24,he25]
  refine Br.dec (fun hlt=>?_) (fun hge=>?_)
  ·have hk':k<(nth d.nodes i).kids.length:=by omega
   have bad:∀ x:Int,x≠0->kidE d i k=x->QJ d=x:=fun x hx he=>by
    have h1:WY d i=x:=by unfold WY;rw [fe_some hk' hk0 (by rw [he];exact hx),he]
    have h2:fe d.nodes.length (WY d)=x:=by rw [fe_some hi' hj (by rw [h1];exact hx),h1]
    unfold QJ;rw [h2,if_pos hx]
   have ks:∀ hc:inD d (nth (nth d.nodes i).kids k),(nd d (nth (nth d.nodes i).kids k)).parent=i->(nth sn (nth (nth d.nodes i).kids k).toNat=true↔nth (nth d.nodes i).kids k∈(nth d.nodes i).kids.take k):=fun hc hp=>seen_is hS hi' hj hc hp
   have hsk:=fun hc=>seen_kid hS hk' hc
   have kdef:kidE d i k=if ¬ inD d (nth (nth d.nodes i).kids k)\/(nd d (nth (nth d.nodes i).kids k)).parent≠i\/nth (nth d.nodes i).kids k∈(nth d.nodes i).kids.take k then 3 else if i=0/\(nd d (nth (nth d.nodes i).kids k)).kind=3 then 7 else 0:=rfl
   have inC:inD d (nth (nth d.nodes i).kids k)↔¬ nth (nth d.nodes i).kids k<0/\¬ (d.nodes.length:Int)<=nth (nth d.nodes i).kids k:=by unfold inD;omega
   have ok0:∀ j,kidE d i k=0->j<k+1->kidE d i j=0:=fun j h0 hj'=>by
    by_cases hjk:j=k
    ·subst hjk;exact h0
    ·exact hk0 j (by omega)
   simp -dsimp -implicitDefEqProofs (disch:=omega) only [↓Q0 32,↓Q2 32,↓Q0 38,↓Q2 38,↓Q0 48,↓Q2 48,↓Q0 57,↓Q2 57,↓Q0 82,↓Q2 82,VCA,Z1,↓Q3,Nat.reduceEqDiff,Nat.reduceBEq,Nat.reduceAdd,Nat.reduceSub,Nat.reduceMul,Nat.reduceLT,Nat.reduceLeDiff,↓reduceIte,reduceCtorEq,Z3,Q6,SOp.rd,SI.rd,SX.rd,rdL,rdO,rdP,Q5,Q4,Q1,Q8,Q7,Z0,implies_true,forall_const,forall_eq,ne_eq,exists_eq_right_right,exists_eq_right,exists_eq_left,exists_eq_left',Q9,Z5,Z7,Z6,J9,J6,he1,he3,he4,he15,he16,he17,he23,he24,he25,J9,Z6,hr']
   repeat' (first | ((with_reducible refine brC (fun _=>?_) fun _=>?_) <;> try (exfalso;omega)) | (with_reducible refine And.intro ?_ ?_; · omega) | simp -dsimp -implicitDefEqProofs (disch:=omega) only [↓Q0 32,↓Q2 32,↓Q0 38,↓Q2 38,↓Q0 48,↓Q2 48,↓Q0 57,↓Q2 57,↓Q0 82,↓Q2 82,VCA,Z1,↓Q3,Nat.reduceEqDiff,Nat.reduceBEq,Nat.reduceAdd,Nat.reduceSub,Nat.reduceMul,Nat.reduceLT,Nat.reduceLeDiff,↓reduceIte,reduceCtorEq,Z3,Q6,SOp.rd,SI.rd,SX.rd,rdL,rdO,rdP,Q5,Q4,Q1,Q8,Q7,Z0,implies_true,forall_const,forall_eq,ne_eq,exists_eq_right_right,exists_eq_right,exists_eq_left,exists_eq_left',Q9,Z5,Z7,Z6,J9,J6,he1,he3,he4,he15,he16,he17,he23,he24,he25,J9,Z6,hr',J6])
   ·rename_i q
    exact (bad 3 (by decide) (by rw [kdef,if_pos (.inl fun hc=>(inC.1 hc).1 q)])).symm
   ·rename_i q
    exact (bad 3 (by decide) (by rw [kdef,if_pos (.inl fun hc=>(inC.1 hc).2 q)])).symm
   ·rename_i q
    exact (bad 3 (by decide) (by rw [kdef,if_pos (.inr (.inl q))])).symm
   ·rename_i q3 q2 q1 q
    exact (bad 3 (by decide) (by rw [kdef,if_pos (.inr (.inr ((ks (inC.2 ⟨q3,q2⟩) q1).1 q)))])).symm
   ·rename_i q5 q4 q3 q2 q1 q
    refine (bad 7 (by decide) ?_).symm
    rw [kdef,if_neg,if_pos ⟨by omega,q⟩]
    rintro (hh | hh | hh)
    ·exact hh (inC.2 ⟨q5,q4⟩)
    ·exact hh q3
    ·rw [(ks (inC.2 ⟨q5,q4⟩) q3).2 hh] at q2;cases q2
   ·rename_i q5 q4 q3 q2 q1 q
    have k0:kidE d i k=0:=by
     rw [kdef,if_neg,if_neg (fun hh=>q hh.2)]
     rintro (hh | hh | hh)
     ·exact hh (inC.2 ⟨q5,q4⟩)
     ·exact hh q3
     ·rw [(ks (inC.2 ⟨q5,q4⟩) q3).2 hh] at q2;cases q2
    refine ⟨_,by omega,k+1,sn.set (nth (nth d.nodes i).kids k).toNat true,by omega,rfl,by omega,S.upd hr,?_,hsk (inC.2 ⟨q5,q4⟩),fun j=>ok0 j k0⟩
    rw [eBool_set]
   ·rename_i q4 q3 q2 q1 q
    have k0:kidE d i k=0:=by
     rw [kdef,if_neg,if_neg (fun hh=>q (by omega))]
     rintro (hh | hh | hh)
     ·exact hh (inC.2 ⟨q4,q3⟩)
     ·exact hh q2
     ·rw [(ks (inC.2 ⟨q4,q3⟩) q2).2 hh] at q1;cases q1
    refine ⟨_,by omega,k+1,sn.set (nth (nth d.nodes i).kids k).toNat true,by omega,rfl,by omega,S.upd hr,?_,hsk (inC.2 ⟨q4,q3⟩),fun j=>ok0 j k0⟩
    rw [eBool_set]
  ·simp -dsimp -implicitDefEqProofs (disch:=omega) only [↓Q0 32,↓Q2 32,↓Q0 38,↓Q2 38,↓Q0 48,↓Q2 48,↓Q0 57,↓Q2 57,↓Q0 82,↓Q2 82,VCA,Z1,↓Q3,Nat.reduceEqDiff,Nat.reduceBEq,Nat.reduceAdd,Nat.reduceSub,Nat.reduceMul,Nat.reduceLT,Nat.reduceLeDiff,↓reduceIte,reduceCtorEq,Z3,Q6,SOp.rd,SI.rd,SX.rd,rdL,rdO,rdP,Q5,Q4,Q1,Q8,Q7,Z0,implies_true,forall_const,forall_eq,ne_eq,exists_eq_right_right,exists_eq_right,exists_eq_left,exists_eq_left',Q9,Z5,Z7,Z6,J9,J6,he1,he3,he4,he15,he16,he17,he23,he24,he25]
   obtain rfl:k=(nth d.nodes i).kids.length:=by omega
   refine ⟨_,by omega,i+1,sn,by omega,rfl,by omega,S,hr',seen_next hS,fun j hj'=>?_⟩
   by_cases hji:j=i
   ·subst hji;exact XW hk0
   ·exact hj j (by omega)
 ·obtain rfl:i=d.nodes.length:=by omega
  have hk0:fe d.nodes.length (WY d)=0:=XW hj
  have hsl:=hS.1
  simp -dsimp -implicitDefEqProofs (disch:=omega) only [↓Q0 32,↓Q2 32,↓Q0 38,↓Q2 38,↓Q0 48,↓Q2 48,↓Q0 57,↓Q2 57,↓Q0 82,↓Q2 82,VCA,Z1,↓Q3,Nat.reduceEqDiff,Nat.reduceBEq,Nat.reduceAdd,Nat.reduceSub,Nat.reduceMul,Nat.reduceLT,Nat.reduceLeDiff,↓reduceIte,reduceCtorEq,Z3,Q6,SOp.rd,SI.rd,SX.rd,rdL,rdO,rdP,Q5,Q4,Q1,Q8,Q7,Z0,implies_true,forall_const,forall_eq,ne_eq,exists_eq_right_right,exists_eq_right,exists_eq_left,exists_eq_left',Q9,Z5,Z7,Z6,J9,J6,he1,he3,J9]
  refine LoopVC.intro (fun m e h'=>∃ i:Nat,i<=d.nodes.length/\m=d.nodes.length-i/\e 1=.pin (J9 d)/\e 3=.osl r 1 0 d.nodes.length/\e 72=sl Z6 d.nodes/\e 73=Y0 d.nodes.length/\e 74=Y0 i/\Sim.Sub h h' /\
   h' r=some ⟨.t 4,1,sn.map J6⟩ /\ ∀ j,j<i->parE d j=0) d.nodes.length ⟨0,by omega,by omega,he1,he3,rfl,rfl,rfl,S,hr',by omega⟩ ?_
  rintro m e h' ⟨i,hi,rfl,he1,he3,he72,he73,he74,S,hr',hp0⟩
  simp -dsimp -implicitDefEqProofs (disch:=omega) only [↓Q0 32,↓Q2 32,↓Q0 38,↓Q2 38,↓Q0 48,↓Q2 48,↓Q0 57,↓Q2 57,↓Q0 82,↓Q2 82,VCA,Z1,↓Q3,Nat.reduceEqDiff,Nat.reduceBEq,Nat.reduceAdd,Nat.reduceSub,Nat.reduceMul,Nat.reduceLT,Nat.reduceLeDiff,↓reduceIte,reduceCtorEq,Z3,Q6,SOp.rd,SI.rd,SX.rd,rdL,rdO,rdP,Q5,Q4,Q1,Q8,Q7,Z0,implies_true,forall_const,forall_eq,ne_eq,exists_eq_right_right,exists_eq_right,exists_eq_left,exists_eq_left',Q9,Z5,Z7,Z6,J9,J6,he1,he3,he72,he73,he74]
  refine Br.dec (fun hlt=>?_) (fun hge=>?_)
  ·have hi':i<d.nodes.length:=by omega
   have se:=seen_end hS hj hi'
   have bad:parE d i=3->QJ d=3:=fun h3=>by
    have h2:fe d.nodes.length (parE d)=3:=by rw [fe_some hi' hp0 (by rw [h3];decide),h3]
    unfold QJ;rw [hk0,if_neg (by simp),h2];rfl
   simp -dsimp -implicitDefEqProofs (disch:=omega) only [↓Q0 32,↓Q2 32,↓Q0 38,↓Q2 38,↓Q0 48,↓Q2 48,↓Q0 57,↓Q2 57,↓Q0 82,↓Q2 82,VCA,Z1,↓Q3,Nat.reduceEqDiff,Nat.reduceBEq,Nat.reduceAdd,Nat.reduceSub,Nat.reduceMul,Nat.reduceLT,Nat.reduceLeDiff,↓reduceIte,reduceCtorEq,Z3,Q6,SOp.rd,SI.rd,SX.rd,rdL,rdO,rdP,Q5,Q4,Q1,Q8,Q7,Z0,implies_true,forall_const,forall_eq,ne_eq,exists_eq_right_right,exists_eq_right,exists_eq_left,exists_eq_left',Q9,Z5,Z7,Z6,J9,J6,he1,he3,he72,he73,he74,Z6]
   refine ⟨by omega,fun rx hrx=>?_⟩
   have hne:r≠rx:=fun e=>by subst e;rw [hr'] at hrx;cases hrx
   have S1:=S.upd (x:=some ⟨.t 35,6,[Z6 (nth d.nodes i)]⟩) (S.none hrx)
   have hr1:∀ x,upd h' rx (some x) r=some ⟨.t 4,1,sn.map J6⟩:=fun x=>by rw [J7 _ _ hne];exact hr'
   have pdef:parE d i=if (nth d.nodes i).parent ≠ -1/\(¬ inD d (nth d.nodes i).parent\/(i:Int)∉(nd d (nth d.nodes i).parent).kids) then 3 else 0:=rfl
   have ok0:parE d i=0 -> ∀ j,j<i+1->parE d j=0:=fun h0 j hj'=>by
    by_cases hji:j=i
    ·subst hji;exact h0
    ·exact hp0 j (by omega)
   repeat' (first | ((with_reducible refine brC (fun _=>?_) fun _=>?_) <;> try (exfalso;omega)) | (with_reducible refine And.intro ?_ ?_; · omega) | simp -dsimp -implicitDefEqProofs (disch:=omega) only [↓Q0 32,↓Q2 32,↓Q0 38,↓Q2 38,↓Q0 48,↓Q2 48,↓Q0 57,↓Q2 57,↓Q0 82,↓Q2 82,VCA,Z1,↓Q3,Nat.reduceEqDiff,Nat.reduceBEq,Nat.reduceAdd,Nat.reduceSub,Nat.reduceMul,Nat.reduceLT,Nat.reduceLeDiff,↓reduceIte,reduceCtorEq,Z3,Q6,SOp.rd,SI.rd,SX.rd,rdL,rdO,rdP,Q5,Q4,Q1,Q8,Q7,Z0,implies_true,forall_const,forall_eq,ne_eq,exists_eq_right_right,exists_eq_right,exists_eq_left,exists_eq_left',Q9,Z5,Z7,Z6,J9,J6,he1,he3,he72,he73,he74,Z6,hne,hr',J6])
   ·rename_i q1 q
    have hb:=bad (by
     rw [pdef,if_pos]
     refine ⟨q1,?_⟩
     rw [<-Classical.not_and_iff_not_or_not,<-se]
     simpa using q)
    exact ⟨S1,by rw [hb]⟩
   ·rename_i q1 q
    refine ⟨_,by omega,i+1,by omega,rfl,by omega,S1,ok0 ?_⟩
    rw [pdef,if_neg]
    rintro ⟨_,hh⟩
    rw [<-Classical.not_and_iff_not_or_not,<-se] at hh
    simp [hh] at q
   ·rename_i q
    refine ⟨_,by omega,i+1,by omega,rfl,by omega,S1,ok0 ?_⟩
    rw [pdef,if_neg (fun hh=>hh.1 q)]
  ·obtain rfl:i=d.nodes.length:=by omega
   have hp1:fe d.nodes.length (parE d)=0:=XW hp0
   have e0:nd d 0=nth d.nodes 0:=nd_nat d 0
   have kd:QJ d=if (nth d.nodes 0).parent ≠ -1 then 3 else 0:=by
    unfold QJ;rw [hk0,if_neg (by simp),hp1,if_neg (by simp),e0]
   repeat' (first | ((with_reducible refine brC (fun _=>?_) fun _=>?_) <;> try (exfalso;omega)) | (with_reducible refine And.intro ?_ ?_; · omega) | simp -dsimp -implicitDefEqProofs (disch:=omega) only [↓Q0 32,↓Q2 32,↓Q0 38,↓Q2 38,↓Q0 48,↓Q2 48,↓Q0 57,↓Q2 57,↓Q0 82,↓Q2 82,VCA,Z1,↓Q3,Nat.reduceEqDiff,Nat.reduceBEq,Nat.reduceAdd,Nat.reduceSub,Nat.reduceMul,Nat.reduceLT,Nat.reduceLeDiff,↓reduceIte,reduceCtorEq,Z3,Q6,SOp.rd,SI.rd,SX.rd,rdL,rdO,rdP,Q5,Q4,Q1,Q8,Q7,Z0,implies_true,forall_const,forall_eq,ne_eq,exists_eq_right_right,exists_eq_right,exists_eq_left,exists_eq_left',Q9,Z5,Z7,Z6,J9,J6,he1,he3,he72,he73,he74,J9,Z6])
   ·rename_i q
    rw [kd,if_pos q]
   ·rename_i q
    rw [kd,if_neg (by simpa using q)]
theorem docE_kids (d:HDoc):docE d=if 200<d.nodes.length then 2 else if d.nodes.length=0 then 3 else if fe d.nodes.length (headE d)≠0 then fe d.nodes.length (headE d) else if QJ d≠0 then QJ d else fe d.nodes.length (deepE d):=by
 unfold docE QJ
 by_cases h1:fe d.nodes.length (WY d)≠0
 ·simp [h1]
 ·by_cases h2:fe d.nodes.length (parE d)≠0
  ·simp [h1,h2]
  ·by_cases h3:(nd d 0).parent ≠ -1 <;> simp [h1,h2,h3]
theorem kids_par {d:HDoc} (h:QJ d=0):∀ n,inD d n->0<=(nd d n).parent->inD d (nd d n).parent:=by
 intro n hn hp
 have h2:fe d.nodes.length (parE d)=0:=by
  unfold QJ at h
  split at h
  ·contradiction
  ·split at h
   ·contradiction
   ·rename_i hh;simpa using hh
 have:=fe_zero h2 n.toNat hn.nat.1
 unfold parE at this
 simp only at this
 split at this
 ·omega
 ·rename_i hh
  have e:(nth d.nodes n.toNat)=nd d n:=rfl
  rw [e] at hh
  simp only [not_and,not_or,Classical.not_not] at hh
  exact (hh (by omega)).1
def c9:SFun:=⟨.seq (.reg [o 1 (.boxF 24 2 (.t 0)),o 2 (.mv (.c (.int .i64 0)))]) (.seq (.block 0 (.seq (.reg [o 10 (.fldA 0 (.t 1)),o 11 (.ld 1 false (.t 10)),o 12 (.len (.t 11)),o 13 (.bin .gtr (.t 12) (.c (.int .i64 200))),o 9 (.mv (.t 13))]) (.cond (.t 9) (.seq (.reg [o 2 (.mv (.c (.int .i64 2)))]) .ret) (.seq (.reg [o 15 (.fldA 0 (.t 1)),o 16 (.ld 1 false (.t 15)),o 17 (.len (.t 16)),o 18 (.bin .eql (.t 17) (.c (.int .i64 0))),o 14 (.mv (.t 18))]) (.cond (.t 14) (.seq (.reg [o 2 (.mv (.c (.int .i64 3)))]) .ret) .skip))))) (.seq (.seq (.reg [o 19 (.fldA 0 (.t 1)),o 20 (.ld 1 false (.t 19)),o 21 (.len (.t 20)),o 22 (.mv (.c (.int .i64 0)))]) (.block 1 (.loop (.seq (.reg [o 23 (.bin .lss (.t 22) (.t 21))]) (.seq (.cond (.t 23) .skip (.exit 1)) (.seq (.block 2 (.seq (.reg [o 24 (.mv (.t 22)),o 25 (.idxA 6 (.t 20) (.t 22)),o 26 (.ld 6 true (.t 25)),o 4 (.new 35 6 [.int .i64 0,.str [],.emp,.str [],.int .i64 0,.emp]),o 3 (.mv (.t 24)),⟨none,.st 6 (.t 4) (.t 26),none⟩]) (.seq (.seq (.reg [o 27 (.fldA 0 (.t 4)),o 28 (.ld 1 false (.t 27)),o 29 (.bin .eql (.t 28) (.c (.int .i64 1))),o 30 (.mv (.t 3)),o 31 (.bin .eql (.t 30) (.c (.int .i64 0))),o 32 (.eqb true (.t 29) (.t 31))]) (.cond (.t 32) (.seq (.reg [o 2 (.mv (.c (.int .i64 3)))]) .ret) .skip)) (.seq (.reg [o 33 (.ld 6 true (.t 4)),o 34 (.pcall 15 [.t 33]),o 5 (.mv (.t 34))]) (.seq (.reg [o 35 (.mv (.t 5)),o 36 (.bin .neq (.t 35) (.c (.int .i64 0)))]) (.cond (.t 36) (.seq (.reg [o 37 (.mv (.t 5)),o 2 (.mv (.t 37))]) .ret) .skip)))))) (.reg [o 38 (.bin .add (.t 22) (.c (.int .i64 1))),o 22 (.mv (.t 38))]))))))) (.seq (.seq (.reg [o 39 (.ld 2 true (.t 1)),o 40 (.pcall 16 [.t 39]),o 6 (.mv (.t 40))]) (.seq (.reg [o 41 (.mv (.t 6)),o 42 (.bin .neq (.t 41) (.c (.int .i64 0)))]) (.cond (.t 42) (.seq (.reg [o 43 (.mv (.t 6)),o 2 (.mv (.t 43))]) .ret) .skip))) (.seq (.seq (.reg [o 44 (.fldA 0 (.t 1)),o 45 (.ld 1 false (.t 44)),o 46 (.len (.t 45)),o 47 (.mv (.c (.int .i64 0)))]) (.block 3 (.loop (.seq (.reg [o 48 (.bin .lss (.t 47) (.t 46))]) (.seq (.cond (.t 48) .skip (.exit 3)) (.seq (.block 4 (.seq (.reg [o 49 (.mv (.t 47)),o 7 (.mv (.t 49))]) (.seq (.reg [o 50 (.ld 2 true (.t 1)),o 51 (.mv (.t 7)),o 52 (.pcall 17 [.t 50,.t 51]),o 8 (.mv (.t 52))]) (.block 5 (.seq (.reg [o 54 (.mv (.t 8)),o 55 (.fldA 0 (.t 1)),o 56 (.ld 1 false (.t 55)),o 57 (.len (.t 56)),o 58 (.bin .gtr (.t 54) (.t 57)),o 53 (.mv (.t 58))]) (.cond (.t 53) (.seq (.reg [o 2 (.mv (.c (.int .i64 8)))]) .ret) (.seq (.reg [o 60 (.mv (.t 8)),o 61 (.bin .gtr (.t 60) (.c (.int .i64 40))),o 59 (.mv (.t 61))]) (.cond (.t 59) (.seq (.reg [o 2 (.mv (.c (.int .i64 2)))]) .ret) .skip)))))))) (.reg [o 62 (.bin .add (.t 47) (.c (.int .i64 1))),o 47 (.mv (.t 62))]))))))) (.seq (.reg [o 2 (.mv (.c (.int .i64 0)))]) .ret))))),[.tmp 2]⟩
theorem hc9:Y6 Tryz.prog {pure:=[15,16,17]} Tryz.f9=some c9:=by kernel_rfl
theorem hn9 : (Tryz.f9.name == "runtime.NumGoroutine") = false := by kernel_rfl
theorem check_ok (d:HDoc) (sm:DocSm d):PCalls (Pg G) 9 [.agg (J9 d)] (Y0 (docE d)):=fun h=>by
 have hl:=sm.len
 rw [docE_kids]
 refine Z4 Tryz.func9 hn9 hc9 (by rw [Tryz.ntmps9];simp) (by rw [Tryz.ntmps9];decide) ?_
 simp -dsimp -implicitDefEqProofs (disch:=omega) only [VCA,Z1,↓Q3,Nat.reduceEqDiff,Nat.reduceBEq,Nat.reduceAdd,Nat.reduceSub,Nat.reduceMul,Nat.reduceLT,Nat.reduceLeDiff,↓reduceIte,reduceCtorEq,Z3,Q6,SOp.rd,SI.rd,SX.rd,rdL,rdO,rdP,Q5,Q4,Q1,Q8,Q7,Z0,implies_true,forall_const,forall_eq,ne_eq,exists_eq_right_right,exists_eq_right,exists_eq_left,exists_eq_left',Q9,Z5,Z7,Z6,J9,J6,c9,J9]
 refine Br.dec (fun h1=>?_) (fun h1=>?_)
 ·rw [if_pos (by omega)]
  simp -dsimp -implicitDefEqProofs (disch:=omega) only [VCA,Z1,↓Q3,Nat.reduceEqDiff,Nat.reduceBEq,Nat.reduceAdd,Nat.reduceSub,Nat.reduceMul,Nat.reduceLT,Nat.reduceLeDiff,↓reduceIte,reduceCtorEq,Z3,Q6,SOp.rd,SI.rd,SX.rd,rdL,rdO,rdP,Q5,Q4,Q1,Q8,Q7,Z0,implies_true,forall_const,forall_eq,ne_eq,exists_eq_right_right,exists_eq_right,exists_eq_left,exists_eq_left',Q9,Z5,Z7,Z6,J9,J6]
  exact Sub.refl _
 ·rw [if_neg (by omega)]
  simp -dsimp -implicitDefEqProofs (disch:=omega) only [VCA,Z1,↓Q3,Nat.reduceEqDiff,Nat.reduceBEq,Nat.reduceAdd,Nat.reduceSub,Nat.reduceMul,Nat.reduceLT,Nat.reduceLeDiff,↓reduceIte,reduceCtorEq,Z3,Q6,SOp.rd,SI.rd,SX.rd,rdL,rdO,rdP,Q5,Q4,Q1,Q8,Q7,Z0,implies_true,forall_const,forall_eq,ne_eq,exists_eq_right_right,exists_eq_right,exists_eq_left,exists_eq_left',Q9,Z5,Z7,Z6,J9,J6]
  refine Br.eq (fun h2=>?_) (fun h2=>?_)
  ·rw [if_pos (by omega)]
   simp -dsimp -implicitDefEqProofs (disch:=omega) only [VCA,Z1,↓Q3,Nat.reduceEqDiff,Nat.reduceBEq,Nat.reduceAdd,Nat.reduceSub,Nat.reduceMul,Nat.reduceLT,Nat.reduceLeDiff,↓reduceIte,reduceCtorEq,Z3,Q6,SOp.rd,SI.rd,SX.rd,rdL,rdO,rdP,Q5,Q4,Q1,Q8,Q7,Z0,implies_true,forall_const,forall_eq,ne_eq,exists_eq_right_right,exists_eq_right,exists_eq_left,exists_eq_left',Q9,Z5,Z7,Z6,J9,J6]
   exact Sub.refl _
  ·rw [if_neg (by omega)]
   simp -dsimp -implicitDefEqProofs (disch:=omega) only [VCA,Z1,↓Q3,Nat.reduceEqDiff,Nat.reduceBEq,Nat.reduceAdd,Nat.reduceSub,Nat.reduceMul,Nat.reduceLT,Nat.reduceLeDiff,↓reduceIte,reduceCtorEq,Z3,Q6,SOp.rd,SI.rd,SX.rd,rdL,rdO,rdP,Q5,Q4,Q1,Q8,Q7,Z0,implies_true,forall_const,forall_eq,ne_eq,exists_eq_right_right,exists_eq_right,exists_eq_left,exists_eq_left',Q9,Z5,Z7,Z6,J9,J6]
   refine LoopVC.intro (fun m e h'=>∃ i:Nat,i<=d.nodes.length/\m=d.nodes.length-i/\e 1=.pin (J9 d)/\e 20=sl Z6 d.nodes/\e 21=Y0 d.nodes.length/\e 22=Y0 i/\Sim.Sub h h' /\ ∀ j,j<i->headE d j=0) d.nodes.length ⟨0,by omega,by omega,rfl,rfl,rfl,rfl,Sub.refl _,by omega⟩ ?_
   rintro m e h' ⟨i,hi,rfl,he1,he20,he21,he22,S,hj⟩
   simp -dsimp -implicitDefEqProofs (disch:=omega) only [VCA,Z1,↓Q3,Nat.reduceEqDiff,Nat.reduceBEq,Nat.reduceAdd,Nat.reduceSub,Nat.reduceMul,Nat.reduceLT,Nat.reduceLeDiff,↓reduceIte,reduceCtorEq,Z3,Q6,SOp.rd,SI.rd,SX.rd,rdL,rdO,rdP,Q5,Q4,Q1,Q8,Q7,Z0,implies_true,forall_const,forall_eq,ne_eq,exists_eq_right_right,exists_eq_right,exists_eq_left,exists_eq_left',Q9,Z5,Z7,Z6,J9,J6,he1,he20,he21,he22]
   refine Br.dec (fun hlt=>?_) (fun hge=>?_)
   ·have hi':i<d.nodes.length:=by omega
    have hO:PCalls (Pg G) 15 [.agg [Y0 (nth d.nodes i).kind,.str (nth d.nodes i).name,sl Z5 (nth d.nodes i).attrs,.str (nth d.nodes i).text,Y0 (nth d.nodes i).parent,sl Z7 (nth d.nodes i).kids]] (Y0 (nodeE (nth d.nodes i))):=one_ok' _ (sm.nth i)
    simp -dsimp -implicitDefEqProofs (disch:=omega) only [VCA,Z1,↓Q3,Nat.reduceEqDiff,Nat.reduceBEq,Nat.reduceAdd,Nat.reduceSub,Nat.reduceMul,Nat.reduceLT,Nat.reduceLeDiff,↓reduceIte,reduceCtorEq,Z3,Q6,SOp.rd,SI.rd,SX.rd,rdL,rdO,rdP,Q5,Q4,Q1,Q8,Q7,Z0,implies_true,forall_const,forall_eq,ne_eq,exists_eq_right_right,exists_eq_right,exists_eq_left,exists_eq_left',Q9,Z5,Z7,Z6,J9,J6,he1,he20,he21,he22,Z6]
    refine ⟨by omega,fun rx hrx=>?_⟩
    have S1:=S.upd (x:=some ⟨.t 35,6,[Z6 (nth d.nodes i)]⟩) (S.none hrx)
    have hdef:headE d i=if ¬ ((nth d.nodes i).kind=1↔i=0) then 3 else nodeE (nth d.nodes i):=rfl
    have bad:∀ x:Int,x≠0->headE d i=x->fe d.nodes.length (headE d)=x:=fun x hx he=>by rw [fe_some hi' hj (by rw [he];exact hx),he]
    have bq:(((nth d.nodes i).kind==1)==((i:Int)==0))=true↔((nth d.nodes i).kind=1↔i=0):=by
     rw [beq_iff_eq,Bool.eq_iff_iff,beq_iff_eq,beq_iff_eq];omega
    repeat' (first | ((with_reducible refine brC (fun _=>?_) fun _=>?_) <;> try (exfalso;omega)) | (with_reducible apply pcallE.of; · exact hO) | (with_reducible refine And.intro ?_ ?_; · omega) | simp -dsimp -implicitDefEqProofs (disch:=omega) only [VCA,Z1,↓Q3,Nat.reduceEqDiff,Nat.reduceBEq,Nat.reduceAdd,Nat.reduceSub,Nat.reduceMul,Nat.reduceLT,Nat.reduceLeDiff,↓reduceIte,reduceCtorEq,Z3,Q6,SOp.rd,SI.rd,SX.rd,rdL,rdO,rdP,Q5,Q4,Q1,Q8,Q7,Z0,implies_true,forall_const,forall_eq,ne_eq,exists_eq_right_right,exists_eq_right,exists_eq_left,exists_eq_left',Q9,Z5,Z7,Z6,J9,J6,he1,he20,he21,he22,Z6])
    ·rename_i q
     have q:¬ ((nth d.nodes i).kind=1↔i=0):=fun hh=>q (beq_iff_eq.1 (bq.2 hh))
     have:=bad 3 (by decide) (by rw [hdef,if_pos q])
     exact ⟨S1,by rw [this];rfl⟩
    ·rename_i q1 q
     have q1:¬ ¬ ((nth d.nodes i).kind=1↔i=0):=fun hh=>hh (bq.1 (beq_iff_eq.2 q1))
     have:=bad _ q (by rw [hdef,if_neg q1])
     exact ⟨S1,by rw [this,if_pos q]⟩
    ·rename_i q1 q
     have q1:¬ ¬ ((nth d.nodes i).kind=1↔i=0):=fun hh=>hh (bq.1 (beq_iff_eq.2 q1))
     refine ⟨_,by omega,i+1,by omega,rfl,by omega,S1,fun j hj'=>?_⟩
     by_cases hji:j=i
     ·subst hji;rw [hdef,if_neg q1,q]
     ·exact hj j (by omega)
   ·obtain rfl:i=d.nodes.length:=by omega
    rw [if_neg (by rw [XW hj];simp)]
    have hK:PCalls (Pg G) 16 [.agg [sl Z6 d.nodes,.bool d.quirks]] (Y0 (QJ d)):=kids_ok d sm (by omega)
    simp -dsimp -implicitDefEqProofs (disch:=omega) only [VCA,Z1,↓Q3,Nat.reduceEqDiff,Nat.reduceBEq,Nat.reduceAdd,Nat.reduceSub,Nat.reduceMul,Nat.reduceLT,Nat.reduceLeDiff,↓reduceIte,reduceCtorEq,Z3,Q6,SOp.rd,SI.rd,SX.rd,rdL,rdO,rdP,Q5,Q4,Q1,Q8,Q7,Z0,implies_true,forall_const,forall_eq,ne_eq,exists_eq_right_right,exists_eq_right,exists_eq_left,exists_eq_left',Q9,Z5,Z7,Z6,J9,J6,he1,J9]
    refine pcallE.of (hK) ?_;simp -dsimp -implicitDefEqProofs (disch:=omega) only [VCA,Z1,↓Q3,Nat.reduceEqDiff,Nat.reduceBEq,Nat.reduceAdd,Nat.reduceSub,Nat.reduceMul,Nat.reduceLT,Nat.reduceLeDiff,↓reduceIte,reduceCtorEq,Z3,Q6,SOp.rd,SI.rd,SX.rd,rdL,rdO,rdP,Q5,Q4,Q1,Q8,Q7,Z0,implies_true,forall_const,forall_eq,ne_eq,exists_eq_right_right,exists_eq_right,exists_eq_left,exists_eq_left',Q9,Z5,Z7,Z6,J9,J6,he1,J9]
    refine Br.ne (fun h3=>?_) (fun h3=>?_)
    ·simp -dsimp -implicitDefEqProofs (disch:=omega) only [VCA,Z1,↓Q3,Nat.reduceEqDiff,Nat.reduceBEq,Nat.reduceAdd,Nat.reduceSub,Nat.reduceMul,Nat.reduceLT,Nat.reduceLeDiff,↓reduceIte,reduceCtorEq,Z3,Q6,SOp.rd,SI.rd,SX.rd,rdL,rdO,rdP,Q5,Q4,Q1,Q8,Q7,Z0,implies_true,forall_const,forall_eq,ne_eq,exists_eq_right_right,exists_eq_right,exists_eq_left,exists_eq_left',Q9,Z5,Z7,Z6,J9,J6]
     exact ⟨S,by rw [if_pos h3]⟩
    ·rw [if_neg (by simpa using h3)]
     have hP:=kids_par h3
     simp -dsimp -implicitDefEqProofs (disch:=omega) only [VCA,Z1,↓Q3,Nat.reduceEqDiff,Nat.reduceBEq,Nat.reduceAdd,Nat.reduceSub,Nat.reduceMul,Nat.reduceLT,Nat.reduceLeDiff,↓reduceIte,reduceCtorEq,Z3,Q6,SOp.rd,SI.rd,SX.rd,rdL,rdO,rdP,Q5,Q4,Q1,Q8,Q7,Z0,implies_true,forall_const,forall_eq,ne_eq,exists_eq_right_right,exists_eq_right,exists_eq_left,exists_eq_left',Q9,Z5,Z7,Z6,J9,J6,he1,J9]
     refine LoopVC.intro (fun m e h'=>∃ i:Nat,i<=d.nodes.length/\m=d.nodes.length-i/\e 1=.pin (J9 d)/\e 46=Y0 d.nodes.length/\e 47=Y0 i/\Sim.Sub h h' /\ ∀ j,j<i->deepE d j=0) d.nodes.length ⟨0,by omega,by omega,he1,rfl,rfl,S,by omega⟩ ?_
     rintro m e h' ⟨i,hi,rfl,he1,he46,he47,S,hj⟩
     simp -dsimp -implicitDefEqProofs (disch:=omega) only [VCA,Z1,↓Q3,Nat.reduceEqDiff,Nat.reduceBEq,Nat.reduceAdd,Nat.reduceSub,Nat.reduceMul,Nat.reduceLT,Nat.reduceLeDiff,↓reduceIte,reduceCtorEq,Z3,Q6,SOp.rd,SI.rd,SX.rd,rdL,rdO,rdP,Q5,Q4,Q1,Q8,Q7,Z0,implies_true,forall_const,forall_eq,ne_eq,exists_eq_right_right,exists_eq_right,exists_eq_left,exists_eq_left',Q9,Z5,Z7,Z6,J9,J6,he1,he46,he47]
     refine Br.dec (fun hlt=>?_) (fun hge=>?_)
     ·have hi':i<d.nodes.length:=by omega
      have hU:PCalls (Pg G) 17 [.agg [sl Z6 d.nodes,.bool d.quirks],Y0 i] (Y0 (up d i)):=up_ok d sm hP i (inD_nat.2 hi')
      have bad:∀ x:Int,x≠0->deepE d i=x->fe d.nodes.length (deepE d)=x:=fun x hx he=>by rw [fe_some hi' hj (by rw [he];exact hx),he]
      have ddef:deepE d i=if d.nodes.length<up d i then 8 else if 40<up d i then 2 else 0:=rfl
      simp -dsimp -implicitDefEqProofs (disch:=omega) only [VCA,Z1,↓Q3,Nat.reduceEqDiff,Nat.reduceBEq,Nat.reduceAdd,Nat.reduceSub,Nat.reduceMul,Nat.reduceLT,Nat.reduceLeDiff,↓reduceIte,reduceCtorEq,Z3,Q6,SOp.rd,SI.rd,SX.rd,rdL,rdO,rdP,Q5,Q4,Q1,Q8,Q7,Z0,implies_true,forall_const,forall_eq,ne_eq,exists_eq_right_right,exists_eq_right,exists_eq_left,exists_eq_left',Q9,Z5,Z7,Z6,J9,J6,he1,he46,he47,J9]
      repeat' (first | ((with_reducible refine brC (fun _=>?_) fun _=>?_) <;> try (exfalso;omega)) | (with_reducible apply pcallE.of; · exact hU) | (with_reducible refine And.intro ?_ ?_; · omega) | simp -dsimp -implicitDefEqProofs (disch:=omega) only [VCA,Z1,↓Q3,Nat.reduceEqDiff,Nat.reduceBEq,Nat.reduceAdd,Nat.reduceSub,Nat.reduceMul,Nat.reduceLT,Nat.reduceLeDiff,↓reduceIte,reduceCtorEq,Z3,Q6,SOp.rd,SI.rd,SX.rd,rdL,rdO,rdP,Q5,Q4,Q1,Q8,Q7,Z0,implies_true,forall_const,forall_eq,ne_eq,exists_eq_right_right,exists_eq_right,exists_eq_left,exists_eq_left',Q9,Z5,Z7,Z6,J9,J6,he1,he46,he47,J9])
      ·exact (bad 8 (by decide) (by rw [ddef,if_pos (by omega)])).symm
      ·exact (bad 2 (by decide) (by rw [ddef,if_neg (by omega),if_pos (by omega)])).symm
      ·refine ⟨_,by omega,i+1,by omega,rfl,by omega,S,fun j hj'=>?_⟩
       by_cases hji:j=i
       ·subst hji;rw [ddef,if_neg (by omega),if_neg (by omega)]
       ·exact hj j (by omega)
     ·obtain rfl:i=d.nodes.length:=by omega
      simp -dsimp -implicitDefEqProofs (disch:=omega) only [VCA,Z1,↓Q3,Nat.reduceEqDiff,Nat.reduceBEq,Nat.reduceAdd,Nat.reduceSub,Nat.reduceMul,Nat.reduceLT,Nat.reduceLeDiff,↓reduceIte,reduceCtorEq,Z3,Q6,SOp.rd,SI.rd,SX.rd,rdL,rdO,rdP,Q5,Q4,Q1,Q8,Q7,Z0,implies_true,forall_const,forall_eq,ne_eq,exists_eq_right_right,exists_eq_right,exists_eq_left,exists_eq_left',Q9,Z5,Z7,Z6,J9,J6]
      exact ⟨S,(XW hj).symm⟩
theorem lenp {α:Type} (l:List α):(0<(l.length:Int))=(l≠[]):=by rw [<-List.length_pos_iff];exact propext (by omega)
theorem DocSm.few {d:HDoc} (sm:DocSm d) (n:Nat):DocSm ⟨d.nodes.take n,d.quirks⟩:=⟨by have:=sm.len;simp;omega,fun x hx=>sm.each x (List.mem_of_mem_take hx)⟩
end Go.Proofs.K
end
section
set_option linter.unusedSimpArgs false
set_option linter.unusedVariables false
namespace Go.Proofs.K
open Go Go.Sim Go.Proofs
def setN (d:HDoc) (n:Int) (x:HNode):HDoc:=⟨d.nodes.set n.toNat x,d.quirks⟩
section
variable {d:HDoc}
theorem setN_len (n:Int) (x:HNode):(setN d n x).nodes.length=d.nodes.length:=by simp [setN]
theorem upF_congr {d':HDoc} (V:DV d) (h:∀ m,inD d m->(nd d' m).parent=(nd d m).parent):∀ (f:Nat) (n:Int),inD d n->upF f d' n=upF f d n
 | 0,_,_=>rfl
 | f+1,n,hn=>by
   unfold upF
   rw [h n hn]
   by_cases hp:0<=(nd d n).parent
   ·rw [if_pos hp,if_pos hp,upF_congr V h f _ (V.par_in hn hp).1]
   ·rw [if_neg hp,if_neg hp]
def UV (d:HDoc) (x:HNode):HDoc:=⟨d.nodes++[x],d.quirks⟩
theorem VU (x:HNode):(UV d x).nodes.length=d.nodes.length+1:=by simp [UV]
section
variable {a t:Int} {i:Nat}
end
section
variable {n:Int} {i:Nat}
end
end
end Go.Proofs.K
end
section
set_option linter.unusedSimpArgs false
set_option linter.unusedVariables false
namespace Go.Proofs.K
open Go Go.Sim Go.Proofs
structure HEdit where
 do':Int
 at':Int
 into:Int
 before:Int
 name:List UInt8
 value:List UInt8
 node:HNode
deriving DecidableEq,Inhabited
def eEdit (e:HEdit):List AVal:=[Y0 e.do',Y0 e.at',Y0 e.into,Y0 e.before,.str e.name,.str e.value,Y0 e.node.kind,.str e.node.name,sl Z5 e.node.attrs,.str e.node.text,Y0 e.node.parent,sl Z7 e.node.kids]
instance:LenE eEdit 12:=⟨fun _=>rfl⟩
def lowF:Nat->HDoc->Int->Nat
 | 0,_,_=>0
 | f+1,d,n=>((nd d n).kids.map fun k=>lowF f d k+1).foldl max 0
def low (d:HDoc) (n:Int):Nat:=lowF (41-up d n) d n
section
variable {d:HDoc}
end
section
variable {d:HDoc}
end
end Go.Proofs.K
end
section
set_option linter.unusedSimpArgs false
set_option linter.unusedVariables false
namespace Go.Proofs.K
open Go Go.Sim Go.Proofs
variable {G:U5}
def Y7:AVal->Option Nat
 | .osl r _ _ _=>some r
 | _=>none
def OwnS (h:Z2) (ty sz:Nat) (cells:List (List AVal)) (a:AVal):Prop:=
 (cells=[]/\a=.emp)\/(a=.slc cells /\ ∀ e∈cells,e.length=sz) \/ ∃ r es,a=.osl r sz 0 cells.length/\h r=some ⟨ty,sz,es⟩/\cells.length<=es.length/\es.take cells.length=cells
def Mut (a:AVal):Prop:=∀ es,a≠.slc es
theorem OwnS.live {h:Z2} {ty sz:Nat} {cells:List (List AVal)} {a:AVal} (O:OwnS h ty sz cells a) (M:Mut a):(cells=[]/\a=.emp) \/ ∃ r es,a=.osl r sz 0 cells.length/\h r=some ⟨ty,sz,es⟩/\cells.length<=es.length/\es.take cells.length=cells:=by
 rcases O with O | O | O
 ·exact .inl O
 ·exact absurd O.1 (M _)
 ·exact .inr O
theorem OwnS.keep {h h2:Z2} {ty sz:Nat} {cells:List (List AVal)} {a:AVal} (O:OwnS h ty sz cells a) (hk:∀ r o,Y7 a=some r->h r=some o->h2 r=some o):OwnS h2 ty sz cells a:=by
 rcases O with O | O | ⟨r,es,ha,hr,h1,h2⟩
 ·exact .inl O
 ·exact .inr (.inl O)
 ·exact .inr (.inr ⟨r,es,ha,hk r _ (by rw [ha];rfl) hr,h1,h2⟩)
theorem OwnS.of_acc {h h':Z2} {ty sz:Nat} {cells:List (List AVal)} {a:AVal} (A:Acc h ty sz cells a h'):OwnS h' ty sz cells a/\(∀ r,Y7 a=some r->h r=none)/\Mut a:=by
 rcases A with ⟨h1,h2⟩ | ⟨r,h0,h1,h2⟩
 ·exact ⟨.inl ⟨h1,h2⟩,fun r hr=>by (rw [h2] at hr;cases hr),fun es e=>by rw [h2] at e;cases e⟩
 ·exact ⟨.inr (.inr ⟨r,_,h2,h1,Nat.le_refl _,by rw [List.take_length]⟩),fun r' hr=>by (rw [h2] at hr;cases hr;exact h0),fun es e=>by rw [h2] at e;cases e⟩
theorem OwnS.isV {h:Z2} {ty sz:Nat} {cells:List (List AVal)} {a:AVal} (O:OwnS h ty sz cells a):isV a=true/\cellsOf a=[a]:=by
 rcases O with ⟨h1,h2⟩ | ⟨h2,_⟩ | ⟨r,es,ha,_⟩
 ·subst h2;exact ⟨rfl,rfl⟩
 ·subst h2;exact ⟨rfl,rfl⟩
 ·subst ha;exact ⟨rfl,rfl⟩
theorem OwnS.root {h:Z2} {ty sz:Nat} {cells:List (List AVal)} {a:AVal} (O:OwnS h ty sz cells a) {r:Nat} (hr:Y7 a=some r):∃ o,h r=some o:=by
 rcases O with ⟨h1,h2⟩ | ⟨h2,_⟩ | ⟨r',es,ha,h1,_⟩
 ·subst h2;cases hr
 ·subst h2;cases hr
 ·subst ha;cases hr;exact ⟨_,h1⟩
theorem OwnS.vw {α:Type} [Inhabited α] {enc:α->List AVal} {h:Z2} {ty sz:Nat} [LenE enc sz] {l:List α} {a:AVal} (O:OwnS h ty sz (l.map enc) a):Vw h a (sl enc l):=by
 rcases O with ⟨h1,h2⟩ | ⟨h2,_⟩ | ⟨r,es,ha,hr,h1,h2⟩
 ·have:l=[]:=by simpa using h1
  subst this;subst h2;exact .emp
 ·subst h2;exact .refl _
 ·subst ha
  refine .osl r sz 0 _ ⟨ty,sz,es⟩ (l.map enc) hr (by simpa using h1) rfl (fun f hf=>by obtain ⟨x,_,rfl⟩:=List.mem_map.1 hf;exact LenE.len x) fun k j e f x y he hf hx hy=>?_
  have hk:k<(l.map enc).length:=(List.getElem?_eq_some_iff.1 hf).1
  simp only [Nat.zero_add] at he
  have he':(es.take (l.map enc).length)[k]? = some e:=by rw [List.getElem?_take,if_pos hk];exact he
  rw [h2] at he'
  rw [he'] at hf
  cases hf
  rw [hx] at hy;cases hy;exact .refl _
def rowA (x:HNode) (a k:AVal):List AVal:=[Y0 x.kind,.str x.name,a,.str x.text,Y0 x.parent,k]
def T0 (d:HDoc) (sl:Nat->AVal):List (List AVal):=(List.range d.nodes.length).map fun i=>rowA (nth d.nodes i) (sl (2*i)) (sl (2*i+1))
theorem V4 (d:HDoc) (sl:Nat->AVal):(T0 d sl).length=d.nodes.length:=by simp [T0]
theorem rowsA_get {d:HDoc} {sl:Nat->AVal} {i:Nat} (hi:i<d.nodes.length):(T0 d sl).getD i []=rowA (nth d.nodes i) (sl (2*i)) (sl (2*i+1)):=by
 rw [List.getD_eq_getElem?_getD,T0,List.getElem?_map,List.getElem?_range hi];rfl
structure Dw (X:List Nat) (h0 h:Z2) (rN:Nat) (d:HDoc) (sl:Nat->AVal):Prop where
 sub:Sim.Sub h0 h
 nodes:h rN=some ⟨.t 35,6,T0 d sl⟩
 new:h0 rN=none/\rN∉X
 own:∀ i,i<d.nodes.length->OwnS h 59 2 ((nth d.nodes i).attrs.map Z5) (sl (2*i))/\OwnS h 3 1 ((nth d.nodes i).kids.map Z7) (sl (2*i+1))
 fresh:∀ k,k<2*d.nodes.length -> ∀ r,Y7 (sl k)=some r->h0 r=none/\r≠rN/\r∉X
 sep:∀ j k,j<2*d.nodes.length->k<2*d.nodes.length->j≠k -> ∀ r,Y7 (sl j)=some r->Y7 (sl k)≠some r
 keep:∀ r∈X,∃ o,h r=some o
theorem Dw.slot {X:List Nat} {h0 h:Z2} {rN:Nat} {d:HDoc} {sl:Nat->AVal} (E:Dw X h0 h rN d sl) {k:Nat} (hk:k<2*d.nodes.length) {r:Nat} (hr:Y7 (sl k)=some r):∃ o,h r=some o:=by
 have hi:k / 2<d.nodes.length:=by omega
 obtain ⟨h1,h2⟩:=E.own _ hi
 rcases (by omega:k=2*(k / 2)\/k=2*(k / 2)+1) with h | h
 ·rw [h] at hr;exact h1.root hr
 ·rw [h] at hr;exact h2.root hr
theorem Dw.put {X:List Nat} {h0 h h2:Z2} {rN:Nat} {d:HDoc} {sl sl':Nat->AVal} (E:Dw X h0 h rN d sl) {i:Nat} (hi:i<d.nodes.length) {x':HNode}
 (hs:∀ j,j≠2*i->j≠2*i+1->sl' j=sl j)
 (hN:h2 rN=some ⟨.t 35,6,(T0 d sl).set i (rowA x' (sl' (2*i)) (sl' (2*i+1)))⟩)
 (hk:∀ r o,h r=some o->r≠rN->Y7 (sl (2*i))≠some r->Y7 (sl (2*i+1))≠some r->h2 r=some o)
 (hA:OwnS h2 59 2 (x'.attrs.map Z5) (sl' (2*i))) (hK:OwnS h2 3 1 (x'.kids.map Z7) (sl' (2*i+1)))
 (hf:∀ r,Y7 (sl' (2*i))=some r\/Y7 (sl' (2*i+1))=some r->Y7 (sl (2*i))=some r\/Y7 (sl (2*i+1))=some r\/h r=none)
 (hd:∀ r,Y7 (sl' (2*i))=some r->Y7 (sl' (2*i+1))≠some r):Dw X h0 h2 rN ⟨d.nodes.set i x',d.quirks⟩ sl':=by
 have hl:(d.nodes.set i x').length=d.nodes.length:=by simp
 have fr:∀ r,Y7 (sl' (2*i))=some r\/Y7 (sl' (2*i+1))=some r->h0 r=none/\r≠rN/\r∉X:=fun r hr=>by
  rcases hf r hr with h | h | h
  ·exact E.fresh _ (by omega) r h
  ·exact E.fresh _ (by omega) r h
  ·refine ⟨E.sub.none h,fun e=>?_,fun hx=>?_⟩
   ·rw [e,E.nodes] at h;cases h
   ·obtain ⟨o,ho⟩:=E.keep r hx;rw [h] at ho;cases ho
 have oth:∀ j,j<2*d.nodes.length->j≠2*i->j≠2*i+1 -> ∀ r,Y7 (sl j)=some r->Y7 (sl' (2*i))≠some r/\Y7 (sl' (2*i+1))≠some r:=fun j hj h1 h2 r hr=>by
  have key:¬ (Y7 (sl (2*i))=some r\/Y7 (sl (2*i+1))=some r\/h r=none):=by
   rintro (h | h | h)
   ·exact E.sep j (2*i) hj (by omega) h1 r hr h
   ·exact E.sep j (2*i+1) hj (by omega) h2 r hr h
   ·obtain ⟨o,ho⟩:=E.slot hj hr;rw [h] at ho;cases ho
  exact ⟨fun h=>key (hf r (.inl h)),fun h=>key (hf r (.inr h))⟩
 refine ⟨fun t o ht=>?_,?_,E.new,fun j hj=>?_,fun k hk' r hr=>?_,fun j k hj hk' hne r hr=>?_,fun r hr=>?_⟩
 ·have hne:t≠rN:=fun e=>by rw [e,E.new.1] at ht;cases ht
  refine hk t o (E.sub t o ht) hne (fun h=>?_) (fun h=>?_)
  ·have:=(E.fresh _ (by omega) t h).1;rw [this] at ht;cases ht
  ·have:=(E.fresh _ (by omega) t h).1;rw [this] at ht;cases ht
 ·rw [hN]
  congr 2
  apply List.ext_getElem?
  intro j
  rw [List.getElem?_set]
  show _=(T0 ⟨d.nodes.set i x',d.quirks⟩ sl')[j]?
  unfold T0
  simp only [hl]
  by_cases hij:i=j
  ·subst hij
   rw [if_pos rfl,if_pos (by simpa using hi),List.getElem?_map,List.getElem?_range hi,Option.map_some,nth_set _ _ _ _ hi,if_pos rfl]
  ·rw [if_neg hij]
   by_cases hj:j<d.nodes.length
   ·rw [List.getElem?_map,List.getElem?_map,List.getElem?_range hj,Option.map_some,Option.map_some,nth_set _ _ _ _ hi,if_neg (fun e=>hij e.symm),hs (2*j) (by omega) (by omega),hs (2*j+1) (by omega) (by omega)]
   ·rw [List.getElem?_eq_none (by simp;omega),List.getElem?_eq_none (by simp;omega)]
 ·simp only [hl] at hj
  show OwnS h2 _ _ ((nth (d.nodes.set i x') j).attrs.map Z5) _/\OwnS h2 _ _ ((nth (d.nodes.set i x') j).kids.map Z7) _
  rw [nth_set _ _ _ _ hi]
  by_cases hij:j=i
  ·subst hij;rw [if_pos rfl];exact ⟨hA,hK⟩
  ·rw [if_neg hij,hs (2*j) (by omega) (by omega),hs (2*j+1) (by omega) (by omega)]
   obtain ⟨g1,g2⟩:=E.own j hj
   exact ⟨g1.keep fun r o hr ho=>hk r o ho (E.fresh _ (by omega) r hr).2.1 (fun h=>E.sep (2*j) (2*i) (by omega) (by omega) (by omega) r hr h) (fun h=>E.sep (2*j) (2*i+1) (by omega) (by omega) (by omega) r hr h),
    g2.keep fun r o hr ho=>hk r o ho (E.fresh _ (by omega) r hr).2.1 (fun h=>E.sep (2*j+1) (2*i) (by omega) (by omega) (by omega) r hr h) (fun h=>E.sep (2*j+1) (2*i+1) (by omega) (by omega) (by omega) r hr h)⟩
 ·simp only [hl] at hk'
  by_cases e1:k=2*i
  ·subst e1;exact fr r (.inl hr)
  ·by_cases e2:k=2*i+1
   ·subst e2;exact fr r (.inr hr)
   ·rw [hs k e1 e2] at hr;exact E.fresh k hk' r hr
 ·simp only [hl] at hj hk'
  by_cases j1:j=2*i <;> by_cases j2:j=2*i+1 <;> by_cases k1:k=2*i <;> by_cases k2:k=2*i+1
  all_goals first
   | (exfalso;omega)
   | (subst j1;subst k2;exact hd r hr)
   | (subst j2;subst k1;exact fun h=>hd r h hr)
   | (subst j1;rw [hs k k1 k2];exact fun h=>(oth k hk' k1 k2 r h).1 hr)
   | (subst j2;rw [hs k k1 k2];exact fun h=>(oth k hk' k1 k2 r h).2 hr)
   | (subst k1;rw [hs j j1 j2] at hr;exact (oth j hj j1 j2 r hr).1)
   | (subst k2;rw [hs j j1 j2] at hr;exact (oth j hj j1 j2 r hr).2)
   | (rw [hs j j1 j2] at hr;rw [hs k k1 k2];exact E.sep j k hj hk' hne r hr)
 ·obtain ⟨o,ho⟩:=E.keep r hr
  refine ⟨o,hk r o ho (fun e=>E.new.2 (e ▸ hr)) (fun h=>?_) (fun h=>?_)⟩
  ·exact (E.fresh _ (by omega) r h).2.2 hr
  ·exact (E.fresh _ (by omega) r h).2.2 hr
theorem Dw.vw {X:List Nat} {h0 h:Z2} {rN:Nat} {d:HDoc} {sl':Nat->AVal} (E:Dw X h0 h rN d sl'):Vw h (.osl rN 6 0 d.nodes.length) (sl Z6 d.nodes):=by
 refine Vw.osl0 E.nodes (by simp) (by rw [V4];exact Nat.le_refl _) (fun f hf=>by obtain ⟨x,_,rfl⟩:=List.mem_map.1 hf;rfl) ?_
 show F2 (F2 (Vw h)) ((T0 d sl').take d.nodes.length) (d.nodes.map Z6)
 rw [List.take_of_length_le (by rw [V4];exact Nat.le_refl _)]
 have key:∀ (i:Nat),i<d.nodes.length->F2 (Vw h) (rowA (nth d.nodes i) (sl' (2*i)) (sl' (2*i+1))) (Z6 (nth d.nodes i)):=fun i hi=>by
  obtain ⟨g1,g2⟩:=E.own i hi
  exact .cons (.refl _) (.cons (.refl _) (.cons g1.vw (.cons (.refl _) (.cons (.refl _) (.cons g2.vw .nil)))))
 have e:d.nodes.map Z6=(List.range d.nodes.length).map fun i=>Z6 (nth d.nodes i):=by
  apply List.ext_getElem?
  intro j
  by_cases hj:j<d.nodes.length
  ·rw [List.getElem?_map,List.getElem?_map,List.getElem?_range hj,K4 hj];rfl
  ·rw [List.getElem?_eq_none (by simp;omega),List.getElem?_eq_none (by simp;omega)]
 rw [e]
 unfold T0
 have gen:∀ l:List Nat,(∀ i∈l,i<d.nodes.length)->F2 (F2 (Vw h)) (l.map fun i=>rowA (nth d.nodes i) (sl' (2*i)) (sl' (2*i+1))) (l.map fun i=>Z6 (nth d.nodes i)):=fun l=>by
  induction l with
  | nil=>intro _;exact .nil
  | cons i l ih=>intro hl;exact .cons (key i (hl i List.mem_cons_self)) (ih fun j hj=>hl j (List.mem_cons_of_mem _ hj))
 exact gen _ fun i hi=>List.mem_range.1 hi
theorem Dw.other {X:List Nat} {h0 h:Z2} {rN:Nat} {d:HDoc} {sl:Nat->AVal} (E:Dw X h0 h rN d sl) {r:Nat} (hr:r∈X) (h0r:h0 r=none) (o:AObj):Dw X h0 (upd h r (some o)) rN d sl:=by
 have hne:rN≠r:=fun e=>E.new.2 (e ▸ hr)
 refine ⟨E.sub.upd h0r,by rw [J7 _ _ hne];exact E.nodes,E.new,fun i hi=>?_,E.fresh,E.sep,fun t ht=>?_⟩
 ·obtain ⟨g1,g2⟩:=E.own i hi
  exact ⟨g1.keep fun t ob ht ho=>by rw [J7 _ _ (fun e=>(E.fresh _ (by omega) t ht).2.2 (by rw [e];exact hr))];exact ho,g2.keep fun t ob ht ho=>by rw [J7 _ _ (fun e=>(E.fresh _ (by omega) t ht).2.2 (by rw [e];exact hr))];exact ho⟩
 ·by_cases e:t=r
  ·subst e;exact ⟨o,Z9 _ _ _⟩
  ·rw [J7 _ _ e];exact E.keep t ht
theorem Dw.less {X X':List Nat} {h0 h:Z2} {rN:Nat} {d:HDoc} {sl:Nat->AVal} (E:Dw X h0 h rN d sl) (hx:∀ r∈X',r∈X):Dw X' h0 h rN d sl:=
 ⟨E.sub,E.nodes,⟨E.new.1,fun h=>E.new.2 (hx _ h)⟩,E.own,fun k hk r hr=>⟨(E.fresh k hk r hr).1,(E.fresh k hk r hr).2.1,fun h=>(E.fresh k hk r hr).2.2 (hx _ h)⟩,E.sep,fun r hr=>E.keep r (hx r hr)⟩
theorem Dw.more {X:List Nat} {h0 h:Z2} {rN:Nat} {d:HDoc} {sl:Nat->AVal} (E:Dw X h0 h rN d sl) {r:Nat} (hr:h r=none) (o:AObj):Dw (r :: X) h0 (upd h r (some o)) rN d sl:=by
 have hne:rN≠r:=fun e=>by have:=E.nodes;rw [e,hr] at this;cases this
 have sn:∀ k,k<2*d.nodes.length -> ∀ t,Y7 (sl k)=some t->t≠r:=fun k hk t ht e=>by
  obtain ⟨o',ho⟩:=E.slot hk ht;rw [e,hr] at ho;cases ho
 refine ⟨E.sub.upd (E.sub.none hr),by rw [J7 _ _ hne];exact E.nodes,⟨E.new.1,fun h=>?_⟩,fun i hi=>?_,fun k hk t ht=>⟨(E.fresh k hk t ht).1,(E.fresh k hk t ht).2.1,fun h=>?_⟩,E.sep,fun t ht=>?_⟩
 ·rcases List.mem_cons.1 h with h | h
  ·exact hne h
  ·exact E.new.2 h
 ·obtain ⟨g1,g2⟩:=E.own i hi
  exact ⟨g1.keep fun t ob ht ho=>by rw [J7 _ _ (sn _ (by omega) t ht)];exact ho,g2.keep fun t ob ht ho=>by rw [J7 _ _ (sn _ (by omega) t ht)];exact ho⟩
 ·rcases List.mem_cons.1 h with h | h
  ·exact sn k hk t ht h
  ·exact (E.fresh k hk t ht).2.2 h
 ·by_cases e:t=r
  ·subst e;exact ⟨o,Z9 _ _ _⟩
  ·rw [J7 _ _ e];exact E.keep t ((List.mem_cons.1 ht).resolve_left e)
theorem getD_set_same {es:List (List AVal)} {k:Nat} {x:List AVal} (hk:k<es.length):(es.set k x).getD k []=x:=by
 rw [List.getD_eq_getElem?_getD,List.getElem?_set];simp [hk]
theorem set_set_same {es:List (List AVal)} {k:Nat} {x y:List AVal}:(es.set k x).set k y=es.set k y:=by simp
theorem Dw.cong {X:List Nat} {h0 h:Z2} {rN:Nat} {d d':HDoc} {sl:Nat->AVal} (E:Dw X h0 h rN d sl) (h1:d=d'):Dw X h0 h rN d' sl:=h1 ▸ E
def c18:SFun:=⟨.seq (.reg [o 2 (.mv (.c .emp))]) (.seq (.seq (.reg [o 3 (.mv (.t 0)),o 4 (.isnil 0 false (.t 3))]) (.cond (.t 4) (.seq (.reg [o 2 (.mv (.c .emp))]) .ret) .skip)) (.seq (.reg [o 5 (.bldF 35 6 []),o 6 (.mv (.t 0)),o 7 (.app 35 6 96 (.t 5) (.t 6)),o 2 (.mv (.t 7))]) .ret)),[.tmp 2]⟩
theorem hc18:Y6 Tryz.prog {} Tryz.f18=some c18:=by kernel_rfl
theorem cloneN_own {h:Z2} (l:List HNode) (hl:l.length<=1073741824):DCalls (Pg G) 18 [sl Z6 l] h (AccK h 35 6 (l.map Z6)):=by
 refine Z4 Tryz.func18 (by kernel_rfl) hc18 (by rw [Tryz.ntmps18];simp) (by rw [Tryz.ntmps18];decide) ?_
 simp -dsimp -implicitDefEqProofs (disch:=omega) only [VCA,Z1,↓Q3,Nat.reduceEqDiff,Nat.reduceBEq,Nat.reduceAdd,Nat.reduceSub,Nat.reduceMul,Nat.reduceLT,Nat.reduceLeDiff,↓reduceIte,reduceCtorEq,Z3,Q6,SOp.rd,SI.rd,SX.rd,rdL,rdO,rdP,Q5,Q4,Q1,Q8,Q7,Z0,implies_true,forall_const,forall_eq,ne_eq,exists_eq_right_right,exists_eq_right,exists_eq_left,exists_eq_left',Q9,Z7,J6,Z8,c18]
 intro b hb
 refine Br.intro (fun ht=>?_) (fun hf=>?_)
 ·simp -dsimp -implicitDefEqProofs (disch:=omega) only [VCA,Z1,↓Q3,Nat.reduceEqDiff,Nat.reduceBEq,Nat.reduceAdd,Nat.reduceSub,Nat.reduceMul,Nat.reduceLT,Nat.reduceLeDiff,↓reduceIte,reduceCtorEq,Z3,Q6,SOp.rd,SI.rd,SX.rd,rdL,rdO,rdP,Q5,Q4,Q1,Q8,Q7,Z0,implies_true,forall_const,forall_eq,ne_eq,exists_eq_right_right,exists_eq_right,exists_eq_left,exists_eq_left',Q9,Z7,J6,Z8]
  have:l=[]:=hb (by simpa using ht)
  subst this
  exact ⟨_,Sub.refl _,Acc.nil,Sub.refl _⟩
 ·simp -dsimp -implicitDefEqProofs (disch:=omega) only [VCA,Z1,↓Q3,Nat.reduceEqDiff,Nat.reduceBEq,Nat.reduceAdd,Nat.reduceSub,Nat.reduceMul,Nat.reduceLT,Nat.reduceLeDiff,↓reduceIte,reduceCtorEq,Z3,Q6,SOp.rd,SI.rd,SX.rd,rdL,rdO,rdP,Q5,Q4,Q1,Q8,Q7,Z0,implies_true,forall_const,forall_eq,ne_eq,exists_eq_right_right,exists_eq_right,exists_eq_left,exists_eq_left',Q9,Z7,J6,Z8]
  refine ⟨by omega,by omega,fun r hr=>?_⟩
  exact ⟨_,Sub.refl _,by simpa using Acc.root (cells:=l.map Z6) hr (Z9 _ _ _),(Sub.refl _).upd hr⟩
def c10:SFun:=⟨.seq (.reg [o 1 (.boxF 24 2 (.t 0)),o 2 (.new 24 2 [.emp,.bool false])]) (.seq (.dreg [(o 6 (.fldA 0 (.t 1)),none),(o 7 (.ld 1 false (.t 6)),none),(o 9 (.fldA 1 (.t 1)),none),(o 10 (.ld 1 false (.t 9)),none),(o 8 (.call (.c (.fn 18 [] [])) [.t 7]),(some [7])),(o 11 (.bld [.emp,.bool false] [(0,(1,(.t 8))),(1,(1,(.t 10)))]),none),(o 3 (.new 24 2 [.emp,.bool false]),(some [])),(⟨none,.st 2 (.t 3) (.t 11),none⟩,(some [10,7]))]) (.seq (.seq (.reg [o 12 (.fldA 0 (.t 3)),o 13 (.ld 1 false (.t 12)),o 14 (.len (.t 13)),o 15 (.mv (.c (.int .i64 0)))]) (.block 0 (.loop (.seq (.reg [o 16 (.bin .lss (.t 15) (.t 14))]) (.seq (.cond (.t 16) .skip (.exit 0)) (.seq (.block 1 (.seq (.reg [o 17 (.mv (.t 15)),o 4 (.mv (.t 17))]) (.seq (.reg [o 18 (.fldA 0 (.t 3)),o 19 (.ld 1 false (.t 18)),o 20 (.mv (.t 4)),o 21 (.idxA 6 (.t 19) (.t 20)),o 5 (.mv (.t 21))]) (.dreg [(o 22 (.mv (.t 5)),none),(o 23 (.mv (.t 5)),none),(o 24 (.mv (.t 5)),none),(o 25 (.fldA 0 (.t 24)),none),(o 26 (.fldA 2 (.t 25)),none),(o 27 (.ld 1 false (.t 26)),none),(o 29 (.mv (.t 5)),none),(o 30 (.fldA 0 (.t 29)),none),(o 31 (.fldA 5 (.t 30)),none),(o 32 (.ld 1 false (.t 31)),none),(o 28 (.call (.c (.fn 19 [] [])) [.t 27]),(some [27])),(o 33 (.call (.c (.fn 20 [] [])) [.t 32]),(some [32,27])),(o 34 (.fldA 0 (.t 22)),none),(o 35 (.fldA 2 (.t 34)),none),(⟨none,.st 1 (.t 35) (.t 28),none⟩,(some [32,27])),(o 36 (.fldA 0 (.t 23)),none),(o 37 (.fldA 5 (.t 36)),none),(⟨none,.st 1 (.t 37) (.t 33),none⟩,(some [32,27]))])))) (.reg [o 38 (.bin .add (.t 15) (.c (.int .i64 1))),o 15 (.mv (.t 38))]))))))) (.seq (.reg [o 39 (.ld 2 true (.t 3)),⟨none,.st 2 (.t 2) (.t 39),none⟩]) .ret))),[.cell 2 2 true]⟩
theorem hc10:Y6 Tryz.prog {} Tryz.f10=some c10:=by kernel_rfl
theorem own_ok' (d:HDoc) (sm:DocSm d) (hN:0<d.nodes.length) (h:Z2):DCalls (Pg G) 10 [.agg (J9 d)] h fun a h'=>∃ rN sl,a=.agg [.osl rN 6 0 d.nodes.length,.bool d.quirks]/\Dw [] h h' rN d sl /\ ∀ k,k<2*d.nodes.length->Mut (sl k):=by
 have hl:=sm.len
 refine Z4 Tryz.func10 (by kernel_rfl) hc10 (by rw [Tryz.ntmps10];simp) (by rw [Tryz.ntmps10];decide) ?_
 simp -dsimp -implicitDefEqProofs (disch:=omega) only [VCA,Z1,↓Q3,Nat.reduceEqDiff,Nat.reduceBEq,Nat.reduceAdd,Nat.reduceSub,Nat.reduceMul,Nat.reduceLT,Nat.reduceLeDiff,↓reduceIte,reduceCtorEq,Z3,Q6,SOp.rd,SI.rd,SX.rd,rdL,rdO,rdP,Q5,Q4,Q1,Q8,Q7,Z0,implies_true,forall_const,forall_eq,ne_eq,exists_eq_right_right,exists_eq_right,exists_eq_left,exists_eq_left',Q9,Z7,J6,Z8,c10,J9]
 intro r2 hr2
 refine DCalls.of (cloneN_own (G:=G) d.nodes hl) ?_
 rintro a h1 ⟨A,S1⟩
 obtain ⟨rN,hn0,hn1,rfl⟩:=A.pos (by simpa using hN)
 rw [List.length_map]
 have n2N:¬ rN=r2:=fun e=>by rw [e] at hn0;simp [upd] at hn0
 have g2:h1 r2=some ⟨.t 24,2,[[.emp,.bool false]]⟩:=S1 _ _ (Z9 _ _ _)
 simp -dsimp -implicitDefEqProofs (disch:=omega) only [VCA,Z1,↓Q3,Nat.reduceEqDiff,Nat.reduceBEq,Nat.reduceAdd,Nat.reduceSub,Nat.reduceMul,Nat.reduceLT,Nat.reduceLeDiff,↓reduceIte,reduceCtorEq,Z3,Q6,SOp.rd,SI.rd,SX.rd,rdL,rdO,rdP,Q5,Q4,Q1,Q8,Q7,Z0,implies_true,forall_const,forall_eq,ne_eq,exists_eq_right_right,exists_eq_right,exists_eq_left,exists_eq_left',Q9,Z7,J6,Z8]
 intro r3 hr3
 have n3N:¬ rN=r3:=fun e=>by rw [e,hr3] at hn1;cases hn1
 have n32:¬ r2=r3:=fun e=>by rw [e,hr3] at g2;cases g2
 have h0N:h rN=none:=by rw [J7 _ _ n2N] at hn0;exact hn0
 have S01:Sim.Sub h h1:=fun t o ht=>S1 t o (by rw [J7 _ _ (fun e=>by rw [e,hr2] at ht;cases ht)];exact ht)
 have h03:h r3=none:=S01.none hr3
 obtain ⟨sl0,hsl0⟩:∃ sl0:Nat->AVal,∀ i,sl0 (2*i)=sl Z5 (nth d.nodes i).attrs/\sl0 (2*i+1)=sl Z7 (nth d.nodes i).kids:=
  ⟨fun j=>if j % 2=0 then sl Z5 (nth d.nodes (j / 2)).attrs else sl Z7 (nth d.nodes (j / 2)).kids,fun i=>by
    constructor
    ·dsimp only;rw [if_pos (by omega),show 2*i / 2=i by omega]
    ·dsimp only;rw [if_neg (by omega),show (2*i+1) / 2=i by omega]⟩
 have rt:∀ k r,Y7 (sl0 k)≠some r:=fun k r=>by
  rcases (by omega:k=2*(k / 2)\/k=2*(k / 2)+1) with h | h
  ·rw [h,(hsl0 _).1];exact fun e=>by cases e
  ·rw [h,(hsl0 _).2];exact fun e=>by cases e
 have rows0:T0 d sl0=d.nodes.map Z6:=by
  apply List.ext_getElem?
  intro j
  unfold T0
  by_cases hj:j<d.nodes.length
  ·rw [List.getElem?_map,List.getElem?_map,List.getElem?_range hj,K4 hj,Option.map_some,Option.map_some,(hsl0 j).1,(hsl0 j).2];rfl
  ·rw [List.getElem?_eq_none (by simp;omega),List.getElem?_eq_none (by simp;omega)]
 have E0:Dw [r2,r3] h (upd h1 r3 (some ⟨.t 24,2,[[.osl rN 6 0 d.nodes.length,.bool d.quirks]]⟩)) rN d sl0:=by
  refine ⟨S01.upd h03,by rw [J7 _ _ n3N,hn1,rows0],⟨h0N,by simp [n2N,n3N]⟩,fun i hi=>?_,fun k _ r hr=>absurd hr (rt k r),fun j k _ _ _ r hr=>absurd hr (rt j r),fun r hr=>?_⟩
  ·rw [(hsl0 i).1,(hsl0 i).2]
   exact ⟨.inr (.inl ⟨rfl,fun e he=>by obtain ⟨x,_,rfl⟩:=List.mem_map.1 he;rfl⟩),.inr (.inl ⟨rfl,fun e he=>by obtain ⟨x,_,rfl⟩:=List.mem_map.1 he;rfl⟩)⟩
  ·simp only [List.mem_cons,List.mem_nil_iff,or_false] at hr
   rcases hr with rfl | rfl
   ·exact ⟨_,by rw [J7 _ _ n32];exact g2⟩
   ·exact ⟨_,Z9 _ _ _⟩
 refine LoopVC.intro (fun m e h'=>∃ (k:Nat) (sl':Nat->AVal),k<=d.nodes.length/\m=d.nodes.length-k/\e 2=.vp r2 0/\e 3=.vp r3 0/\e 14=Y0 d.nodes.length/\e 15=Y0 k/\Dw [r2,r3] h h' rN d sl' /\
  h' r2=some ⟨.t 24,2,[[.emp,.bool false]]⟩/\h' r3=some ⟨.t 24,2,[[.osl rN 6 0 d.nodes.length,.bool d.quirks]]⟩/\(∀ j,j<2*k->Mut (sl' j)) /\ ∀ j,2*k<=j->sl' j=sl0 j) d.nodes.length
  ⟨0,sl0,by omega,by omega,rfl,rfl,rfl,rfl,E0,by rw [J7 _ _ n32];exact g2,Z9 _ _ _,by omega,fun _ _=>rfl⟩ ?_
 clear E0 hn1 A g2 hr3 hn0 rt rows0
 rintro m e h' ⟨k,sl',hk,rfl,he2,he3,he14,he15,E,g2,g3,hm,hs⟩
 simp -dsimp -implicitDefEqProofs (disch:=omega) only [VCA,Z1,↓Q3,Nat.reduceEqDiff,Nat.reduceBEq,Nat.reduceAdd,Nat.reduceSub,Nat.reduceMul,Nat.reduceLT,Nat.reduceLeDiff,↓reduceIte,reduceCtorEq,Z3,Q6,SOp.rd,SI.rd,SX.rd,rdL,rdO,rdP,Q5,Q4,Q1,Q8,Q7,Z0,implies_true,forall_const,forall_eq,ne_eq,exists_eq_right_right,exists_eq_right,exists_eq_left,exists_eq_left',Q9,Z7,J6,Z8,he2,he3,he14,he15,g2,g3]
 refine Br.dec (fun hlt=>?_) (fun hge=>?_)
 ·have hk':k<d.nodes.length:=by omega
  have gN:=E.nodes
  have gk:=rowsA_get (sl:=sl') hk'
  have rl:=V4 d sl'
  rw [hs (2*k) (by omega),hs (2*k+1) (by omega),(hsl0 k).1,(hsl0 k).2] at gk
  unfold rowA at gk
  have smk:=sm.nth k
  simp -dsimp -implicitDefEqProofs (disch:=omega) only [VCA,Z1,↓Q3,Nat.reduceEqDiff,Nat.reduceBEq,Nat.reduceAdd,Nat.reduceSub,Nat.reduceMul,Nat.reduceLT,Nat.reduceLeDiff,↓reduceIte,reduceCtorEq,Z3,Q6,SOp.rd,SI.rd,SX.rd,rdL,rdO,rdP,Q5,Q4,Q1,Q8,Q7,Z0,implies_true,forall_const,forall_eq,ne_eq,exists_eq_right_right,exists_eq_right,exists_eq_left,exists_eq_left',Q9,Z7,J6,Z8,he2,he3,he14,he15,g2,g3,gN,gk,rl]
  refine ⟨by omega,hk',hk',DCalls.of (cloneA_own (G:=G) _ smk.attrs) ?_⟩
  rintro a h2 ⟨A1,T1⟩
  have gN2:=T1 _ _ gN
  simp -dsimp -implicitDefEqProofs (disch:=omega) only [VCA,Z1,↓Q3,Nat.reduceEqDiff,Nat.reduceBEq,Nat.reduceAdd,Nat.reduceSub,Nat.reduceMul,Nat.reduceLT,Nat.reduceLeDiff,↓reduceIte,reduceCtorEq,Z3,Q6,SOp.rd,SI.rd,SX.rd,rdL,rdO,rdP,Q5,Q4,Q1,Q8,Q7,Z0,implies_true,forall_const,forall_eq,ne_eq,exists_eq_right_right,exists_eq_right,exists_eq_left,exists_eq_left',Q9,Z7,J6,Z8,he2,he3,he14,he15,g2,g3,gN,gN2,gk,rl]
  refine DCalls.of (cloneZ_own (G:=G) _ smk.kids) ?_
  rintro a2 h3 ⟨A2,T2⟩
  have gN3:=T2 _ _ gN2
  obtain ⟨O1,f1,M1⟩:=OwnS.of_acc A1
  obtain ⟨O2,f2,M2⟩:=OwnS.of_acc A2
  obtain ⟨v1,c1⟩:=O1.isV
  obtain ⟨v2,c2⟩:=O2.isV
  simp -dsimp -implicitDefEqProofs (disch:=omega) only [VCA,Z1,↓Q3,Nat.reduceEqDiff,Nat.reduceBEq,Nat.reduceAdd,Nat.reduceSub,Nat.reduceMul,Nat.reduceLT,Nat.reduceLeDiff,↓reduceIte,reduceCtorEq,Z3,Q6,SOp.rd,SI.rd,SX.rd,rdL,rdO,rdP,Q5,Q4,Q1,Q8,Q7,Z0,implies_true,forall_const,forall_eq,ne_eq,exists_eq_right_right,exists_eq_right,exists_eq_left,exists_eq_left',Q9,Z7,J6,Z8,he2,he3,he14,he15,g2,g3,gN,gN2,gN3,gk,rl,v1,c1,v2,c2,List.length_cons,List.length_nil,List.length_set,getD_set_same,set_set_same]
  have hki:(2*k:Nat)≠2*k+1:=by omega
  refine ⟨by omega,by omega,d.nodes.length-(k+1),by omega,k+1,upd (upd sl' (2*k) a) (2*k+1) a2,by omega,rfl,by omega,?_,?_,?_,?_,?_⟩
  ·have u1:upd (upd sl' (2*k) a) (2*k+1) a2 (2*k)=a:=by rw [J7 _ _ hki,Z9]
   have u2:upd (upd sl' (2*k) a) (2*k+1) a2 (2*k+1)=a2:=Z9 _ _ _
   have T:Sim.Sub h' h3:=T1.trans T2
   refine (E.put hk' (x':=nth d.nodes k) (fun j h1 h2=>by rw [J7 _ _ h2,J7 _ _ h1]) ?_ ?_ ?_ ?_ ?_ ?_).cong ?_
   ·rw [u1,u2,Z9];rfl
   ·intro r o ho hne _ _
    rw [J7 _ _ hne]
    exact T _ _ ho
   ·rw [u1]
    exact O1.keep fun r o hr ho=>by
     rw [J7 _ _ (fun e=>by have:=f1 r hr;rw [e,gN] at this;cases this)]
     exact T2 _ _ ho
   ·rw [u2]
    exact O2.keep fun r o hr ho=>by
     rw [J7 _ _ (fun e=>by have:=f2 r hr;rw [e,gN2] at this;cases this)]
     exact ho
   ·rw [u1,u2]
    rintro r (hr | hr)
    ·exact .inr (.inr (f1 r hr))
    ·exact .inr (.inr (T1.none (f2 r hr)))
   ·rw [u1,u2]
    intro r hr hr2
    obtain ⟨o,ho⟩:=O1.root hr
    have:=f2 r hr2
    rw [ho] at this;cases this
   ·have:d.nodes.set k (nth d.nodes k)=d.nodes:=by
     apply List.ext_getElem?
     intro j
     rw [List.getElem?_set]
     split
     ·rename_i h;subst h;first | (rw [if_pos hk',K4 hk']) | (rw [K4 hk'])
     ·rfl
    rw [this]
  ·rw [if_neg (fun e=>n2N e.symm)];exact (T1.trans T2) _ _ g2
  ·rw [if_neg (fun e=>n3N e.symm)];exact (T1.trans T2) _ _ g3
  ·intro j hj
   by_cases j1:j=2*k+1
   ·subst j1;rw [Z9];exact M2
   ·rw [J7 _ _ j1]
    by_cases j2:j=2*k
    ·subst j2;rw [Z9];exact M1
    ·rw [J7 _ _ j2];exact hm j (by omega)
  ·intro j hj
   rw [J7 _ _ (by omega),J7 _ _ (by omega)]
   exact hs j (by omega)
 ·simp -dsimp -implicitDefEqProofs (disch:=omega) only [VCA,Z1,↓Q3,Nat.reduceEqDiff,Nat.reduceBEq,Nat.reduceAdd,Nat.reduceSub,Nat.reduceMul,Nat.reduceLT,Nat.reduceLeDiff,↓reduceIte,reduceCtorEq,Z3,Q6,SOp.rd,SI.rd,SX.rd,rdL,rdO,rdP,Q5,Q4,Q1,Q8,Q7,Z0,implies_true,forall_const,forall_eq,ne_eq,exists_eq_right_right,exists_eq_right,exists_eq_left,exists_eq_left',Q9,Z7,J6,Z8,he2,he3,he14,he15,g2,g3]
  obtain rfl:k=d.nodes.length:=by omega
  exact ⟨_,Sub.refl _,rN,sl',rfl,(E.other (r:=r2) (by simp) hr2 _).less (by simp),hm⟩
theorem OwnS.app {h:Z2} {ty sz b:Nat} {cells es2:List (List AVal)} {a:AVal} (O:OwnS h ty sz cells a) (M:Mut a) (h1:(cells.length+es2.length)*b<=140737488355328) (h2:cells.length+es2.length<=140737488355328) {K:AVal->Z2->Prop}
 (hk:∀ r' h'',h'' r'=some ⟨ty,sz,cells++es2⟩->(Y7 a=some r'\/h r'=none)->(∀ r o,h r=some o->Y7 a≠some r->h'' r=some o)->K (.osl r' sz 0 (cells.length+es2.length)) h''):Hd (appE ty sz b a es2 h) K .mk:=by
 rcases O.live M with ⟨rfl,rfl⟩ | ⟨r,es,rfl,hr,hl,ht⟩
 ·refine ⟨by simpa using h1,by simpa using h2,fun r hr=>?_⟩
  have:=hk r (upd h r (some ⟨ty,sz,es2⟩)) (by simp) (.inr hr) (fun t o ho _=>by rw [J7 _ _ (fun e=>by rw [e,hr] at ho;cases ho)];exact ho)
  simpa using this
 ·refine ⟨rfl,_,hr,rfl,by simpa using hl,h1,h2,fun r' hr'=>?_⟩
  have hr2:r'=r\/h r'=none:=by
   unfold del at hr'
   split at hr'
   ·rename_i e;exact .inl e
   ·exact .inr hr'
  refine hk r' _ (by simp [ht]) ?_ fun t o ho hne=>?_
  ·rcases hr2 with e | e
   ·left;rw [e];rfl
   ·exact .inr e
  ·have e1:t≠r:=fun e=>hne (by rw [e];rfl)
   have e2:t≠r':=fun e=>by
    rcases hr2 with e3 | e3
    ·exact e1 (e.trans e3)
    ·rw [e,e3] at ho;cases ho
   rw [J7 _ _ e2];unfold del;rw [if_neg e1];exact ho
theorem rowsA_add {d:HDoc} {x:HNode} {sl:Nat->AVal} {a:AVal}:T0 (UV d x) (upd (upd sl (2*d.nodes.length) a) (2*d.nodes.length+1) .emp)=T0 d sl++[rowA x a .emp]:=by
 unfold T0
 rw [VU,List.range_succ,List.map_append,List.map_cons,List.map_nil]
 congr 1
 ·refine List.map_congr_left fun i hi=>?_
  have hi:=List.mem_range.1 hi
  rw [J7 _ _ (by omega),J7 _ _ (by omega),J7 _ _ (by omega),J7 _ _ (by omega)]
  have:nth (UV d x).nodes i=nth d.nodes i:=by
   unfold UV nth;rw [List.getD_eq_getElem?_getD,List.getD_eq_getElem?_getD,List.getElem?_append_left hi]
  rw [this]
 ·rw [Z9,J7 _ _ (by omega),Z9]
  have:nth (UV d x).nodes d.nodes.length=x:=by unfold UV nth;rw [List.getD_eq_getElem?_getD];simp
  rw [this]
theorem Dw.mono {X:List Nat} {h0 h h2:Z2} {rN:Nat} {d:HDoc} {sl:Nat->AVal} (E:Dw X h0 h rN d sl) (S:Sim.Sub h h2):Dw X h0 h2 rN d sl:=
 ⟨E.sub.trans S,S _ _ E.nodes,E.new,fun i hi=>⟨(E.own i hi).1.keep fun r o _ ho=>S _ _ ho,(E.own i hi).2.keep fun r o _ ho=>S _ _ ho⟩,E.fresh,E.sep,fun r hr=>by obtain ⟨o,ho⟩:=E.keep r hr;exact ⟨o,S _ _ ho⟩⟩
theorem Dw.add {X:List Nat} {h0 h h2:Z2} {rN rN':Nat} {d:HDoc} {sl:Nat->AVal} (E:Dw X h0 h rN d sl) {x:HNode} {a':AVal} (hk:x.kids=[])
 (hN:h2 rN'=some ⟨.t 35,6,T0 d sl++[rowA x a' .emp]⟩)
 (kp:∀ r o,h r=some o->r≠rN->h2 r=some o) (O:OwnS h2 59 2 (x.attrs.map Z5) a') (fr:∀ r,Y7 a'=some r->h0 r=none/\r∉X/\r≠rN' /\ ∀ k,k<2*d.nodes.length->Y7 (sl k)≠some r) (fN:rN'=rN\/h rN'=none) :
 Dw X h0 h2 rN' (UV d x) (upd (upd sl (2*d.nodes.length) a') (2*d.nodes.length+1) .emp):=by
 have hold:∀ k,k<2*d.nodes.length->upd (upd sl (2*d.nodes.length) a') (2*d.nodes.length+1) .emp k=sl k:=fun k hk=>by rw [J7 _ _ (by omega),J7 _ _ (by omega)]
 have hnew:upd (upd sl (2*d.nodes.length) a') (2*d.nodes.length+1) .emp (2*d.nodes.length)=a':=by rw [J7 _ _ (by omega),Z9]
 have hnew2:upd (upd sl (2*d.nodes.length) a') (2*d.nodes.length+1) AVal.emp (2*d.nodes.length+1)=.emp:=Z9 _ _ _
 have some_ne:∀ r o,h r=some o->r≠rN->r≠rN':=fun r o ho hne e=>by
  rcases fN with h1 | h1
  ·exact hne (e.trans h1)
  ·rw [e,h1] at ho;cases ho
 generalize hs:upd (upd sl (2*d.nodes.length) a') (2*d.nodes.length+1) .emp=sl' at *
 have rws:T0 (UV d x) sl'=T0 d sl++[rowA x a' .emp]:=by rw [<-hs];exact rowsA_add
 have nX:∀ r,h r=none->r∉X:=fun r hr q=>by obtain ⟨o,ho⟩:=E.keep r q;rw [hr] at ho;cases ho
 have fa:∀ r,Y7 a'=some r->h0 r=none/\r≠rN'/\r∉X:=fun r hr=>⟨(fr r hr).1,(fr r hr).2.2.1,(fr r hr).2.1⟩
 have ks:∀ k,k<2*(d.nodes.length+1)->k<2*d.nodes.length\/k=2*d.nodes.length\/k=2*d.nodes.length+1:=fun k hk=>by omega
 have rne:∀ k,k<2*d.nodes.length -> ∀ r,Y7 (sl k)=some r->r≠rN:=fun k hk r hr=>(E.fresh k hk r hr).2.1
 refine ⟨fun t o ht=>?_,by rw [hN,rws],⟨?_,?_⟩,fun i hi=>?_,fun k hk' r hr=>?_,fun j k hj hk' hne r hr=>?_,fun r hr=>?_⟩
 ·exact kp t o (E.sub t o ht) (fun e=>by rw [e,E.new.1] at ht;cases ht)
 ·rcases fN with h1 | h1
  ·rw [h1];exact E.new.1
  ·exact E.sub.none h1
 ·rcases fN with h1 | h1
  ·rw [h1];exact E.new.2
  ·exact nX _ h1
 ·rw [VU] at hi
  by_cases hl:i<d.nodes.length
  ·have e1:nth (UV d x).nodes i=nth d.nodes i:=by
    unfold UV nth;rw [List.getD_eq_getElem?_getD,List.getD_eq_getElem?_getD,List.getElem?_append_left hl]
   rw [e1,hold _ (by omega),hold _ (by omega)]
   obtain ⟨g1,g2⟩:=E.own i hl
   exact ⟨g1.keep fun r o hr ho=>kp r o ho (rne _ (by omega) r hr),g2.keep fun r o hr ho=>kp r o ho (rne _ (by omega) r hr)⟩
  ·have e0:i=d.nodes.length:=by omega
   subst e0
   have e1:nth (UV d x).nodes d.nodes.length=x:=by unfold UV nth;rw [List.getD_eq_getElem?_getD];simp
   rw [e1,hnew,hnew2,hk]
   exact ⟨O,.inl ⟨rfl,rfl⟩⟩
 ·rw [VU] at hk'
  rcases ks k hk' with h1 | h1 | h1
  ·rw [hold k h1] at hr
   have:=E.fresh k h1 r hr
   obtain ⟨o,ho⟩:=E.slot h1 hr
   exact ⟨this.1,some_ne r o ho this.2.1,this.2.2⟩
  ·rw [h1,hnew] at hr;exact fa r hr
  ·rw [h1,hnew2] at hr;cases hr
 ·rw [VU] at hj hk'
  rcases ks j hj with h1 | h1 | h1
  ·rw [hold j h1] at hr
   rcases ks k hk' with h2 | h2 | h2
   ·rw [hold k h2];exact E.sep j k h1 h2 hne r hr
   ·rw [h2,hnew];intro h3
    exact (fr r h3).2.2.2 j h1 hr
   ·rw [h2,hnew2];intro h3;cases h3
  ·rw [h1,hnew] at hr
   rcases ks k hk' with h2 | h2 | h2
   ·rw [hold k h2];intro h3
    exact (fr r hr).2.2.2 k h2 h3
   ·omega
   ·rw [h2,hnew2];intro h3;cases h3
  ·rw [h1,hnew2] at hr;cases hr
 ·obtain ⟨o,ho⟩:=E.keep r hr
  exact ⟨o,kp r o ho (fun e=>E.new.2 (e ▸ hr))⟩
theorem Dw.rows {X:List Nat} {h0 h:Z2} {rN:Nat} {d:HDoc} {sl:Nat->AVal} (E:Dw X h0 h rN d sl):OwnS h 35 6 (T0 d sl) (.osl rN 6 0 d.nodes.length)/\Mut (.osl rN 6 0 d.nodes.length):=
 ⟨.inr (.inr ⟨rN,_,by rw [V4],E.nodes,by rw [V4];exact Nat.le_refl _,by rw [List.take_of_length_le (Nat.le_refl _)]⟩),fun es q=>by cases q⟩
theorem live_add {d:HDoc} {sl:Nat->AVal} {a':AVal} (M:∀ k,k<2*d.nodes.length->Mut (sl k)) (Ma:Mut a') (x:HNode):∀ k,k<2*(UV d x).nodes.length->Mut (upd (upd sl (2*d.nodes.length) a') (2*d.nodes.length+1) .emp k):=fun k hk=>by
 rw [VU] at hk
 by_cases h1:k=2*d.nodes.length+1
 ·rw [h1,Z9];exact fun es e=>by cases e
 ·rw [J7 _ _ h1]
  by_cases h2:k=2*d.nodes.length
  ·rw [h2,Z9];exact Ma
  ·rw [J7 _ _ h2];exact M k (by omega)
theorem Dw.new' {X:List Nat} {h0 h:Z2} {rN:Nat} {d:HDoc} {sl:Nat->AVal} (E:Dw X h0 h rN d sl):Dw [] (fun _=>none) (newH h0 h) rN d sl:=
 ⟨(fun t o ht=>by cases ht),by rw [newH_none E.new.1];exact E.nodes,⟨rfl,by simp⟩,fun i hi=>⟨(E.own i hi).1.keep fun r o hr ho=>by rw [newH_none (E.fresh _ (by omega) r hr).1];exact ho,(E.own i hi).2.keep fun r o hr ho=>by rw [newH_none (E.fresh _ (by omega) r hr).1];exact ho⟩,
   fun k hk r hr=>⟨rfl,(E.fresh k hk r hr).2.1,by simp⟩,E.sep,fun r hr=>by cases hr⟩
theorem Dw.beside {X:List Nat} {h0 h00 h:Z2} {rN r:Nat} {d:HDoc} {sl:Nat->AVal} {x:AObj} (E:Dw X h0 h rN d sl) (S:Sim.Sub h00 h0) (h1:h0 r=some x) (h2:h00 r=none) (hX:r∉X) (y:AObj):Dw X h00 (upd h r (some y)) rN d sl:=by
 have ne:∀ t,h0 t=none->t≠r:=fun t ht e=>by rw [e,h1] at ht;cases ht
 refine ⟨(S.trans E.sub).upd h2,by rw [J7 _ _ (ne _ E.new.1)];exact E.nodes,⟨S.none E.new.1,E.new.2⟩,fun i hi=>?_,fun k hk t ht=>⟨S.none (E.fresh k hk t ht).1,(E.fresh k hk t ht).2⟩,E.sep,fun t ht=>?_⟩
 ·obtain ⟨g1,g2⟩:=E.own i hi
  exact ⟨g1.keep fun t o ht ho=>by rw [J7 _ _ (ne t (E.fresh _ (by omega) t ht).1)];exact ho,g2.keep fun t o ht ho=>by rw [J7 _ _ (ne t (E.fresh _ (by omega) t ht).1)];exact ho⟩
 ·obtain ⟨o,ho⟩:=E.keep t ht
  exact ⟨o,by rw [J7 _ _ (fun e=>hX (by rw [<-e];exact ht))];exact ho⟩
end Go.Proofs.K
end
section
set_option linter.unusedSimpArgs false
set_option linter.unusedVariables false
namespace Go.Proofs.K
open Go Go.Sim Go.Proofs Go.Shelf
variable {G:U5}
def iren:Ren:=⟨fun | 21=>177 | 27=>216 | 28=>217 | 35=>241 | 39=>252 | n=>n,fun | 0=>0 | 3=>3 | 4=>4 | 22=>33 | n=>n,fun n=>n⟩
theorem lays21:Lays2.n21 Tryz.prog iren:={
 mixed:=by kernel_rfl
 f21:=Tryz.func177.trans (congrArg some (by kernel_rfl))
 f27:=Tryz.func216.trans (congrArg some (by kernel_rfl))
 f28:=Tryz.func217.trans (congrArg some (by kernel_rfl))
 f35:=Tryz.func241.trans (congrArg some (by kernel_rfl))
 f39:=Tryz.func252.trans (congrArg some (by kernel_rfl))
 t0:=Tryz.underlying0
 a0:=Tryz.isAgg0
 z0:=Tryz.sizeOf0
 v0:=Tryz.zeroValue0
 t3:=Tryz.underlying3
 a3:=Tryz.isAgg3
 z3:=Tryz.sizeOf3
 v3:=Tryz.zeroValue3
 t4:=Tryz.underlying4
 a4:=Tryz.isAgg4
 z4:=Tryz.sizeOf4
 v4:=Tryz.zeroValue4
 t22:=Tryz.underlying33
 a22:=Tryz.isAgg33
 z22:=Tryz.sizeOf33
 v22:=Tryz.zeroValue33
 i3:=by kernel_rfl }
theorem QY (b:Nat):∀ (vs:List Value) (o:Nat) (w:World) (cur:Array Value) (t:TypeId) (f:Nat×Nat),w.heap[b]? = some (.cells cur t f)->o+vs.length<=cur.size ->
 ∃ cur':Array Value,(w.setCells b o vs).heap[b]? = some (.cells cur' t f)/\cur'.size=cur.size/\(∀ k,cur'[k]? = if o<=k/\k<o+vs.length then vs[k-o]? else cur[k]?)/\(∀ k,k≠b->(w.setCells b o vs).heap[k]? = w.heap[k]?) /\
   (w.setCells b o vs).heap.size=w.heap.size/\(w.setCells b o vs).os=w.os/\(w.setCells b o vs).tape=w.tape/\(w.setCells b o vs).output=w.output
 | [],o,w,cur,t,f,hb,_=>⟨cur,hb,rfl,fun k=>by rw [if_neg (by simp)],fun _ _=>rfl,rfl,rfl,rfl,rfl⟩
 | v :: r,o,w,cur,t,f,hb,hl=>by
   have hlt:b<w.heap.size:=(Array.getElem?_eq_some_iff.1 hb).1
   have h1:(w.setCell ⟨b,o,none⟩ v).heap[b]? = some (.cells (cur.setIfInBounds o v) t f):=by
    unfold World.setCell
    rw [Array.getElem?_modify,if_pos rfl,hb];rfl
   simp only [List.length_cons] at hl
   obtain ⟨cur',g1,g2,g3,g4,g5,g6,g7,g8⟩:=QY b r (o+1) (w.setCell ⟨b,o,none⟩ v) _ t f h1 (by simp;omega)
   refine ⟨cur',g1,by rw [g2];simp,fun k=>?_,fun k hk=>?_,?_,g6,g7,g8⟩
   ·rw [g3]
    by_cases hk:k=o
    ·subst hk
     rw [if_neg (by omega),if_pos (by simp)]
     rw [Array.getElem?_setIfInBounds]
     first | (simp;omega) | simp
     try omega
    ·by_cases hi:o+1<=k/\k<o+1+r.length
     ·rw [if_pos hi,if_pos (by simp;omega),show k-o=(k-(o+1))+1 by omega,List.getElem?_cons_succ]
     ·rw [if_neg hi,if_neg (by simp;omega),Array.getElem?_setIfInBounds,if_neg (by omega)]
   ·rw [World.setCells,g4 k hk]
    unfold World.setCell
    rw [Array.getElem?_modify,if_neg (fun h=>hk h.symm)]
   ·rw [World.setCells,g5];simp [World.setCell]
def IntsAt (cur:Array Value) (bo:Nat) (l:List Int):Prop:=∀ k,k<l.length->cur[bo+k]? = some (.int .i64 (nth l k))
theorem IntsAt.cells {cur:Array Value} {bo:Nat} {l:List Int} (I:IntsAt cur bo l) (g:Ghost) (w:World):∀ (i j:Nat) (e:List AVal) (x:AVal),(l.map Z7)[i]? = some e->e[j]? = some x -> ∃ u:Value,cur[bo+(i*1+j)]? = some u/\u.oneCell'=true/\VRel g w u x:=by
 intro i j e x he hx
 rw [List.getElem?_map] at he
 obtain ⟨n,hn,rfl⟩:=Option.map_eq_some_iff.1 he
 have hi:=(List.getElem?_eq_some_iff.1 hn).1
 have hj:j=0:=by
  have:=(List.getElem?_eq_some_iff.1 hx).1
  simp [Z7] at this;exact this
 subst hj
 cases hx
 have e1:nth l i=n:=by rw [K4 hi] at hn;exact Option.some.inj hn
 refine ⟨.int .i64 n,?_,rfl,.int _ _⟩
 have:=I i hi
 rw [e1] at this
 simpa using this
theorem ints_block {h:Z2} {g:Ghost} {w:World} (H:HRel h g w) {r:Nat} {es:List (List AVal)} {l:List Int} (hr:h r=some ⟨.t 3,1,es⟩) (hl:l.length<=es.length) (ht:es.take l.length=l.map Z7) (hc:g.cap r≠0) :
 ∃ cur:Array Value,w.heap[g.eta r]? = some (.cells cur 3 (0,0))/\g.bo r+g.cap r=cur.size/\IntsAt cur (g.bo r) l:=by
 have O:=H.obj r _ hr
 rcases O.block with h0 | ⟨_,_,cur,hcur,hsz,hcell⟩
 ·exact absurd h0 hc
 ·refine ⟨cur,hcur.un rfl,by simpa using hsz,fun k hk=>?_⟩
  have he:es[k]? = some (Z7 (nth l k)):=by
   have h1:(es.take l.length)[k]? = some (Z7 (nth l k)):=by rw [ht,List.getElem?_map,K4 hk];rfl
   rw [List.getElem?_take,if_pos hk] at h1;exact h1
  obtain ⟨u,hu,_,hv⟩:=hcell k 0 _ _ he rfl
  rw [hv.int_inv] at hu
  simpa using hu
theorem new_fin {h:Z2} {g:Ghost} {w w':World} (H:HRel h g w) {cells:Array Value} {cap:Nat} {l:List Int} (hp:w'.heap=(w.alloc (.cells cells 3)).heap) (h1:w'.os=w.os) (h2:w'.tape=w.tape) (h3:w'.output=w.output)
 (hcs:cells.size=cap) (hle:l.length<=cap) (hm:cap<=maxLen) (I:IntsAt cells 0 l) :
 ∃ g',GS g w g' w'/\HRel (upd h g.nxt (some ⟨.t 3,1,l.map Z7⟩)) g' w'/\VRel g' w' (.slice (some ⟨w.heap.size,0,none⟩) l.length cap) (.osl g.nxt 1 0 l.length):=by
 obtain ⟨S1,H1⟩:=WK H cells (ty:=3) (sz:=1) (cap:=cap) (es:=l.map Z7) (by decide) (by omega) (by simpa using hle) (fun e he=>by obtain ⟨x,_,rfl⟩:=List.mem_map.1 he;rfl) (fun i j e x he hx=>by
  have:=I.cells g w i j e x he hx
  simpa using this)
 obtain ⟨S2,H2⟩:=H1.ext (w':=w') (fun b _=>by rw [hp]) h1 h2 h3 (by rw [hp];exact Nat.le_refl _)
 refine ⟨_,S1.trans S2,H2,?_⟩
 have:=VRel.osl (g:=g.add w.heap.size 0 cap 1) (w:=w') g.nxt 1 0 l.length cap 0 (Nat.lt_succ_self _) (by simp [Ghost.add]) hle hm (by simp [Ghost.add]) (fun _=>by simp [Ghost.add])
 simpa [Ghost.add] using this
theorem put_fin {h:Z2} {g:Ghost} {w w':World} (H:HRel h g w) {r:Nat} {es:List (List AVal)} (hr:h r=some ⟨.t 3,1,es⟩) (hc:g.cap r≠0) {cur':Array Value} {l:List Int} (hb:w'.heap[g.eta r]? = some (.cells cur' 3 (0,0)))
 (hs:∀ b,b≠g.eta r->w'.heap[b]? = w.heap[b]?) (hz:w'.heap.size=w.heap.size) (h1:w'.os=w.os) (h2:w'.tape=w.tape) (h3:w'.output=w.output) (hsz:g.bo r+g.cap r=cur'.size) (hle:l.length<=g.cap r) (hm:g.cap r<=maxLen) (I:IntsAt cur' (g.bo r) l) :
 ∃ g',GS g w g' w'/\HRel (upd (del h r) g.nxt (some ⟨.t 3,1,l.map Z7⟩)) g' w'/\VRel g' w' (.slice (some ⟨g.eta r,g.bo r,none⟩) l.length (g.cap r)) (.osl g.nxt 1 0 l.length):=by
 have O:=H.obj r _ hr
 rcases O.block with h0 | ⟨hlt,hnf,cur,hcur,_,_⟩
 ·exact absurd h0 hc
 ·obtain ⟨S,H1⟩:=root_touch H hr hc (w':=w') hs hz h1 h2 h3 ⟨_,_,_,hb⟩
  have H2:=H1.add (blk:=g.eta r) (bo:=g.bo r) (cap:=g.cap r) (sz:=1) (ty:=3) (es:=l.map Z7) (by decide) (fun e he=>by obtain ⟨x,_,rfl⟩:=List.mem_map.1 he;rfl) (by simpa using hle) (.inr ⟨by rw [hz];exact hlt,hnf,fun t ob ht h0 he=>by
   unfold Sim.del at ht
   split at ht
   ·cases ht
   ·rename_i hne;exact hne (H.inj t r ob _ ht hr h0 hc he),cur',.mk0 hb,by omega,I.cells g w'⟩)
  refine ⟨_,S.addTo _ _ _ _ (.inr (.inl ⟨r,O.lt,hc,rfl⟩)),H2,?_⟩
  have:=VRel.osl (g:=g.add (g.eta r) (g.bo r) (g.cap r) 1) (w:=w') g.nxt 1 0 l.length (g.cap r) (g.bo r) (Nat.lt_succ_self _) (by simp [Ghost.add]) hle hm (by simp [Ghost.add]) (fun _=>by simp [Ghost.add])
  simpa [Ghost.add] using this
theorem ins_len (l:List Int) (i:Nat) (x:Int) (hi:i<=l.length):(l.take i++x :: l.drop i).length=l.length+1:=by
 rw [List.length_append,List.length_cons,List.length_take,List.length_drop];omega
theorem ins_nth (l:List Int) (i:Nat) (x:Int) (hi:i<=l.length) (k:Nat):nth (l.take i++x :: l.drop i) k=if k<i then nth l k else if k=i then x else nth l (k-1):=by
 unfold nth
 simp only [List.getD_eq_getElem?_getD]
 by_cases h1:k<i
 ·rw [if_pos h1,List.getElem?_append_left (by rw [List.length_take];omega),List.getElem?_take,if_pos h1]
 ·rw [if_neg h1,List.getElem?_append_right (by rw [List.length_take];omega),List.length_take,Nat.min_eq_left hi]
  by_cases h2:k=i
  ·rw [if_pos h2,h2];simp
  ·rw [if_neg h2,show k-i=(k-i-1)+1 by omega,List.getElem?_cons_succ,List.getElem?_drop,show i+(k-i-1)=k-1 by omega]
theorem vrel_three {g:Ghost} {w:World} {vs:Array Value} {a b c:AVal} (V:VRelL g w vs [a,b,c]):∃ u v x,vs = #[u,v,x]/\VRel g w u a/\VRel g w v b/\VRel g w x c:=by
 obtain ⟨hs,hv⟩:=V
 obtain ⟨l⟩:=vs
 match l,hs with
 | [u,v,x],_=>exact ⟨u,v,x,rfl,hv 0 u a rfl rfl,hv 1 v b rfl rfl,hv 2 x c rfl rfl⟩
def XJ (l:List Int):List Value:=l.map (Value.int .i64)
theorem intsV_get {l:List Int} {j:Nat} {v:Value} (h:(XJ l)[j]? = some v):j<l.length/\v=.int .i64 (nth l j):=by
 unfold XJ at h
 rw [List.getElem?_map] at h
 obtain ⟨n,hn,rfl⟩:=Option.map_eq_some_iff.1 h
 have hj:=(List.getElem?_eq_some_iff.1 hn).1
 refine ⟨hj,?_⟩
 rw [K4 hj] at hn
 rw [Option.some.inj hn]
theorem intsV_at {l:List Int} {j:Nat} (h:j<l.length):(XJ l)[j]? = some (.int .i64 (nth l j)):=by
 unfold XJ;rw [List.getElem?_map,K4 h];rfl
theorem intsV_one {l:List Int}:∀ v∈XJ l,v.oneCell'=true:=fun v hv=>by
 obtain ⟨x,_,rfl⟩:=List.mem_map.1 hv;rfl
theorem insertI_ok {h:Z2} {a:AVal} {l:List Int} {x:Int} {i rv:Nat} (O:OwnS h 3 1 (l.map Z7) a) (M:Mut a) (hi:i<=l.length) (hl:l.length<=100000) (hrv:h rv=some ⟨.t 3,1,[Z7 x]⟩) (hne:Y7 a≠some rv) :
 DCalls (Pg G) 177 [a,Y0 i,.osl rv 1 0 1] h fun r h'=>∃ r',r=.osl r' 1 0 (l.length+1)/\h' r'=some ⟨.t 3,1,(l.take i++x :: l.drop i).map Z7⟩/\(Y7 a=some r'\/h r'=none)/\(∀ t o,h t=some o->Y7 a≠some t->h' t=some o):=by
 refine ⟨⟨_,Tryz.func177,by kernel_rfl,by kernel_rfl⟩,fun g w vs H GR V=>?_⟩
 obtain ⟨va,vi,vv,rfl,ha,hvi,hv⟩:=vrel_three V
 rw [hvi.int_inv]
 obtain ⟨hrl,hsz,hc⟩:=hv.osl_inv
 rcases hc with ⟨_,_,h0,_⟩ | ⟨capv,offv,rfl,hncv,hmv,hiv,hoffv⟩
 ·omega
 have hcv:g.cap rv≠0:=by omega
 obtain ⟨curv,hcurv,hszv,Iv⟩:=ints_block H (l:=[x]) hrv (by simp) (by simp) hcv
 have hov:offv=g.bo rv:=by have:=hoffv (by omega);omega
 subst hov
 have cv:∀ j v,[Value.int .i64 x][j]? = some v->w.cell? ⟨g.eta rv,g.bo rv+j,none⟩=some v:=fun j v hj=>by
  have h1:=intsV_get (l:=[x]) (j:=j) (v:=v) hj
  rw [cell_of_row w _ _ curv _ _ hcurv,Iv j h1.1,h1.2]
 have one1:∀ v∈[Value.int .i64 x],v.oneCell'=true:=fun v hv=>by simp at hv;subst hv;rfl
 have nx:=H.none_nxt
 have ins:=ins_len l i x hi
 have insn:=ins_nth l i x hi
 have empty:l=[] -> ∀ (A:Option Addr),va=.slice A 0 0->Calls Tryz.prog 177 #[va,.int .i64 i,.slice (some ⟨g.eta rv,g.bo rv,none⟩) 1 capv] w fun e w'=>∃ v r h' g',e=.returned v/\(∃ r',r=.osl r' 1 0 (l.length+1)/\h' r'=some ⟨.t 3,1,(l.take i++x :: l.drop i).map Z7⟩/\(Y7 a=some r'\/h r'=none)/\(∀ t o,h t=some o->Y7 a≠some t->h' t=some o))/\HRel h' g' w'/\VRel g' w' v r/\GS g w g' w':=by
  intro hl0 A hA
  subst hl0
  obtain rfl:i=0:=by simpa using hi
  rw [hA]
  refine (Any2.slices_Insert_int_end_grow lays21 A 0 0 (g.eta rv) (g.bo rv) 1 capv [] [.int .i64 x] w (by decide) (by decide) (by decide) (by decide) rfl rfl (fun _=>rfl) (fun _ _ j v hj=>by simp at hj) cv one1).mono fun e w' ⟨he,hw⟩=>?_
  have ge:=grownCap_ge w (0+1) 0 (iren.t 3)
  have gm:=grownCap_le_maxLen w (0+1) 0 (iren.t 3) (by decide)
  generalize grownCap w (0+1) 0 (iren.t 3)=gc at *
  obtain ⟨g',S,H',V'⟩:=new_fin (w':=w') (l:=[x]) (cap:=gc) H (by rw [hw];rfl) (by rw [hw];rfl) (by rw [hw];rfl) (by rw [hw];rfl) (by rw [Array.size_append,size_zeroCells];show 1+(gc-(0+1))*1=gc;omega) (by simpa using ge) gm (fun k hk=>by
   have:k=0:=by simpa using hk
   subst this
   rw [Array.getElem?_append_left (by simp)];rfl)
  refine ⟨_,.osl g.nxt 1 0 1,_,g',he,⟨g.nxt,rfl,Z9 _ _ _,.inr nx,fun t o ht _=>by rw [J7 _ _ (fun e=>by rw [e,nx] at ht;cases ht)];exact ht⟩,H',by simpa using V',S⟩
 rcases O.live M with ⟨hl0,rfl⟩ | ⟨r,es,rfl,hr,hle,hte⟩
 ·obtain ⟨A,hA,_⟩:=ha.emp_inv
  exact empty (by simpa using hl0) A hA
 ·rw [List.length_map] at ha hle hte ⊢
  obtain ⟨_,_,hca⟩:=ha.osl_inv
  rcases hca with ⟨hA,_,h0,_⟩ | ⟨c,off,hA,hnc,hm,hic,hoff⟩
  ·have:l=[]:=List.eq_nil_of_length_eq_zero h0
   exact empty this none (by rw [hA])
  ·have hcap:g.cap r=c:=by omega
   have hle2:=(H.obj r _ hr).le
   by_cases hc0:c=0
   ·have hn0:l.length=0:=by omega
    subst hc0
    exact empty (List.eq_nil_of_length_eq_zero hn0) (some ⟨g.eta r,off,none⟩) (by rw [hA,hn0])
   ·have hof:off=g.bo r:=by have:=hoff (by omega);omega
    subst hof
    have hcr:g.cap r≠0:=by omega
    obtain ⟨cur,hcur,hsz2,I⟩:=ints_block H hr hle hte hcr
    rw [hA]
    have cs:∀ j v,(XJ l)[j]? = some v->w.cell? ⟨g.eta r,g.bo r+j,none⟩=some v:=fun j v hj=>by
     obtain ⟨h1,rfl⟩:=intsV_get hj
     rw [cell_of_row w _ _ cur _ _ hcur,I j h1]
    have cln:(XJ l).length=l.length:=by simp [XJ]
    have hnb:g.eta rv≠g.eta r:=fun e=>hne (by rw [H.inj rv r _ _ hrv hr hcv hcr e];rfl)
    have sp:∀ j,g.bo r+j<cur.size->(w.cell? ⟨g.eta r,g.bo r+j,none⟩).isSome=true:=fun j hj=>by
     rw [cell_of_row w _ _ cur _ _ hcur,Array.getElem?_eq_getElem hj];rfl
    have fzn:∀ b k (cu:Array Value) t,w.heap[b]? = some (.cells cu t (0,0))->w.frozen? ⟨b,k,none⟩=false:=fun b k cu t hb=>by simp [World.frozen?,hb]
    have kp:∀ (ob:AObj) t o,h t=some o->Y7 (.osl r 1 0 l.length)≠some t->upd (del h r) g.nxt (some ob) t=some o:=fun ob t o ht hn=>by
     rw [J7 _ _ (fun e=>by rw [e,nx] at ht;cases ht)]
     unfold del
     rw [if_neg (fun e=>hn (by rw [e];rfl))];exact ht
    have kp2:∀ (ob:AObj) t o,h t=some o->Y7 (.osl r 1 0 l.length)≠some t->upd h g.nxt (some ob) t=some o:=fun ob t o ht hn=>by
     rw [J7 _ _ (fun e=>by rw [e,nx] at ht;cases ht)];exact ht
    have dl:((XJ l).drop i).length=l.length-i:=by rw [List.length_drop,cln]
    by_cases hroom:l.length+1<=c
    ·by_cases hin:i<l.length
     ·refine (Any2.slices_Insert_int_shift lays21 (g.eta r) (g.bo r) l.length c i (g.eta rv) (g.bo rv) 1 capv (XJ l) [.int .i64 x] w hin (by decide) hroom (by simp only [maxLen] at hm;omega) hnb cln rfl cs (fun j hj=>sp j (by omega)) (fun j _=>fzn _ _ _ _ hcur) cv intsV_one one1 3 3 curv.size cur.size (by simp [World.shape?,hcurv]) (by simp [World.shape?,hcur]) (by omega) (fzn _ _ _ _ hcurv) (fzn _ _ _ _ hcurv)).mono fun e w' ⟨he,hw⟩=>?_
      obtain ⟨c1,b1,s1,k1,o1,z1,p1,p2,p3⟩:=QY (g.eta r) ((XJ l).drop i) (g.bo r+(i+1)) w.drew cur _ _ hcur (by rw [dl];omega)
      obtain ⟨c2,b2,s2,k2,o2,z2,q1,q2,q3⟩:=QY (g.eta r) [.int .i64 x] (g.bo r+i) (w.drew.setCells (g.eta r) (g.bo r+(i+1)) ((XJ l).drop i)) c1 _ _ b1 (by simp;omega)
      have I2:IntsAt c2 (g.bo r) (l.take i++x :: l.drop i):=fun k hk=>by
       rw [ins] at hk
       rw [k2,insn k]
       by_cases h1:k=i
       ·rw [if_pos (by simp;omega),if_neg (by omega),if_pos h1,h1,Nat.sub_self];rfl
       ·rw [if_neg (by simp;omega),k1,dl]
        by_cases h2:k<i
        ·rw [if_neg (by omega),if_pos h2];exact I k (by omega)
        ·rw [if_pos (by omega),if_neg h2,if_neg h1,List.getElem?_drop,show i+(g.bo r+k-(g.bo r+(i+1)))=k-1 by omega]
         exact intsV_at (by omega)
      obtain ⟨g',S,H',V'⟩:=put_fin (w':=w') (cur':=c2) H hr hcr (by rw [hw];exact b2) (fun b hb=>by rw [hw,o2 b hb,o1 b hb];rfl) (by rw [hw,z2,z1];rfl) (by rw [hw,q1,p1];rfl) (by rw [hw,q2,p2];rfl) (by rw [hw,q3,p3];rfl) (by omega) (by omega) (by omega) I2
      rw [ins,hcap] at V'
      exact ⟨_,.osl g.nxt 1 0 (l.length+1),_,g',he,⟨g.nxt,rfl,Z9 _ _ _,.inr nx,kp _⟩,H',V',S⟩
     ·obtain rfl:i=l.length:=by omega
      refine (Any2.slices_Insert_int_end_room lays21 (g.eta r) (g.bo r) l.length c (g.eta rv) (g.bo rv) 1 capv [.int .i64 x] w (by decide) hroom (by simp only [maxLen] at hm;omega) rfl (fun j hj=>by rw [Nat.add_assoc];exact sp _ (by omega)) (fun j _=>fzn _ _ _ _ hcur) cv one1).mono fun e w' ⟨he,hw⟩=>?_
      obtain ⟨c2,b2,s2,k2,o2,z2,q1,q2,q3⟩:=QY (g.eta r) [.int .i64 x] (g.bo r+l.length) w cur _ _ hcur (by simp;omega)
      have I2:IntsAt c2 (g.bo r) (l.take l.length++x :: l.drop l.length):=fun k hk=>by
       rw [ins] at hk
       rw [k2,insn k]
       by_cases h1:k=l.length
       ·rw [if_pos (by simp;omega),if_neg (by omega),if_pos h1,h1,Nat.sub_self];rfl
       ·rw [if_neg (by simp;omega),if_pos (by omega)];exact I k (by omega)
      obtain ⟨g',S,H',V'⟩:=put_fin (w':=w') (cur':=c2) H hr hcr (by rw [hw];exact b2) (fun b hb=>by rw [hw,o2 b hb]) (by rw [hw,z2]) (by rw [hw,q1]) (by rw [hw,q2]) (by rw [hw,q3]) (by omega) (by omega) (by omega) I2
      rw [ins,hcap] at V'
      exact ⟨_,.osl g.nxt 1 0 (l.length+1),_,g',he,⟨g.nxt,rfl,Z9 _ _ _,.inr nx,kp _⟩,H',V',S⟩
    ·have ge:=grownCap_ge w (l.length+1) c (iren.t 3)
     have gm:=grownCap_le_maxLen w (l.length+1) c (iren.t 3) (by simp only [maxLen];omega)
     by_cases hin:i<l.length
     ·refine (Any2.slices_Insert_int_grow lays21 (g.eta r) (g.bo r) l.length c i (g.eta rv) (g.bo rv) 1 capv (XJ l) [.int .i64 x] w hin (by decide) hnc (by omega) (by omega) cln rfl cs cv intsV_one one1).mono fun e w' ⟨he,hw⟩=>?_
      generalize grownCap w (l.length+1) c (iren.t 3)=gc at *
      have z0:∀ k,(Builtin.zeroCells (Value.int .i64 0).cells k).size=k:=fun k=>by rw [size_zeroCells];show k*1=k;omega
      rw [show iren.t 3=3 from rfl] at hw
      generalize hC0:(((XJ l).take i).toArray++Builtin.zeroCells (Value.int .i64 0).cells (l.length+1-i)++Builtin.zeroCells (Value.int .i64 0).cells (gc-(l.length+1)))=C0 at hw
      have sC:C0.size=gc:=by
       rw [<-hC0,Array.size_append,Array.size_append,z0,z0,List.size_toArray,List.length_take,cln];omega
      have gC:∀ k,k<i->C0[k]? = some (.int .i64 (nth l k)):=fun k hk=>by
       rw [<-hC0,Array.append_assoc,Array.getElem?_append_left (by rw [List.size_toArray,List.length_take,cln];omega),List.getElem?_toArray,List.getElem?_take,if_pos hk]
       exact intsV_at (by omega)
      have hb0:(w.alloc (.cells C0 3)).drew.heap[w.heap.size]? = some (.cells C0 3 (0,0)):=K3 w _
      obtain ⟨c1,b1,s1,k1,o1,z1,p1,p2,p3⟩:=QY w.heap.size [.int .i64 x] i (w.alloc (.cells C0 3)).drew C0 _ _ hb0 (by simp;omega)
      obtain ⟨c2,b2,s2,k2,o2,z2,q1,q2,q3⟩:=QY w.heap.size ((XJ l).drop i) (i+1) ((w.alloc (.cells C0 3)).drew.setCells w.heap.size i [.int .i64 x]).drew c1 _ _ b1 (by rw [dl];omega)
      have I2:IntsAt c2 0 (l.take i++x :: l.drop i):=fun k hk=>by
       rw [ins] at hk
       rw [k2,insn k,dl]
       by_cases h1:i<k
       ·rw [if_pos (by omega),if_neg (by omega),if_neg (by omega),List.getElem?_drop,show i+(0+k-(i+1))=k-1 by omega]
        exact intsV_at (by omega)
       ·rw [if_neg (by omega),k1]
        by_cases h2:k=i
        ·rw [if_pos (by simp;omega),if_neg (by omega),if_pos h2,h2];simp
        ·rw [if_neg (by simp;omega),if_pos (by omega),Nat.zero_add];exact gC k (by omega)
      have hp:w'.heap=(w.alloc (.cells c2 3)).heap:=by
       rw [hw]
       apply Array.ext_getElem?
       intro b
       by_cases hb:b=w.heap.size
       ·subst hb;rw [b2];exact (K3 w _).symm
       ·rw [o2 b hb]
        refine (o1 b hb).trans ?_
        show (w.heap.push _)[b]? = (w.heap.push _)[b]?
        rw [Array.getElem?_push,Array.getElem?_push,if_neg hb,if_neg hb]
      obtain ⟨g',S,H',V'⟩:=new_fin (w':=w') (cap:=gc) H hp (by rw [hw,q1];exact p1) (by rw [hw,q2];exact p2) (by rw [hw,q3];exact p3) (by omega) (by omega) gm I2
      rw [ins] at V'
      exact ⟨_,.osl g.nxt 1 0 (l.length+1),_,g',he,⟨g.nxt,rfl,Z9 _ _ _,.inr nx,kp2 _⟩,H',V',S⟩
     ·obtain rfl:i=l.length:=by omega
      refine (Any2.slices_Insert_int_end_grow lays21 (some ⟨g.eta r,g.bo r,none⟩) l.length c (g.eta rv) (g.bo rv) 1 capv (XJ l) [.int .i64 x] w (by decide) hnc (by omega) (by omega) cln rfl (fun h=>by cases h) (fun a ha j v hj=>by cases ha;rw [Addr.add_lit];exact cs j v hj) cv one1).mono fun e w' ⟨he,hw⟩=>?_
      generalize grownCap w (l.length+1) c (iren.t 3)=gc at *
      have z0:∀ k,(Builtin.zeroCells (Value.int .i64 0).cells k).size=k:=fun k=>by rw [size_zeroCells];show k*1=k;omega
      obtain ⟨g',S,H',V'⟩:=new_fin (w':=w') (l:=l.take l.length++x :: l.drop l.length) (cap:=gc) H (by rw [hw];rfl) (by rw [hw];rfl) (by rw [hw];rfl) (by rw [hw];rfl) (by rw [Array.size_append,z0,List.size_toArray,List.length_append,cln,List.length_singleton];omega) (by omega) gm (fun k hk=>by
       rw [ins] at hk
       rw [Nat.zero_add,insn k,Array.getElem?_append_left (by rw [List.size_toArray,List.length_append,cln,List.length_singleton];omega),List.getElem?_toArray]
       by_cases h1:k<l.length
       ·rw [if_pos h1,List.getElem?_append_left (by omega)];exact intsV_at h1
       ·rw [if_neg h1,if_pos (by omega),List.getElem?_append_right (by omega),cln,show k-l.length=0 by omega];rfl)
      rw [ins] at V'
      exact ⟨_,.osl g.nxt 1 0 (l.length+1),_,g',he,⟨g.nxt,rfl,Z9 _ _ _,.inr nx,kp2 _⟩,H',V',S⟩
end Go.Proofs.K
end
section
set_option linter.unusedSimpArgs false
set_option linter.unusedVariables false
namespace Go.Proofs.K
open Go Go.Sim Go.Proofs
variable {G:U5}
section
variable {h0 h:Z2} {re rN:Nat} {d:HDoc} {sl:Nat->AVal} {made:Int}
end
end Go.Proofs.K
end
section
set_option linter.unusedSimpArgs false
set_option linter.unusedVariables false
namespace Go.Proofs.K
open Go Go.Sim Go.Proofs
variable {G:U5}
section
variable {h0 h:Z2} {re rN:Nat} {d:HDoc} {sl:Nat->AVal} {made:Int}
end
end Go.Proofs.K
end
section
set_option linter.unusedSimpArgs false
set_option linter.unusedVariables false
namespace Go.Proofs.K
open Go Go.Sim Go.Proofs
variable {G:U5}
section
variable {d:HDoc}
end
end Go.Proofs.K
end
section
set_option linter.unusedSimpArgs false
set_option linter.unusedVariables false
namespace Go.Proofs.K
open Go Go.Sim Go.Proofs
variable {G:U5}
section
variable {d:HDoc}
end
end Go.Proofs.K
end
section
set_option linter.unusedSimpArgs false
set_option linter.unusedVariables false
namespace Go.Proofs.K
open Go Go.Sim Go.Proofs
variable {G:U5}
theorem eDoc_len (d:HDoc):(J9 d).length=2:=rfl
theorem eDoc_take (d:HDoc):(J9 d).take 2=J9 d:=rfl
theorem docE_DV {d:HDoc} (h:docE d=0):DV d:=(YY d).1 h
def noDoc:HDoc:=⟨[],false⟩
theorem vw_noDoc (h:Z2):Vw h (.agg [.emp,.bool false]) (.agg (J9 noDoc)):=Vw.agg' (.cons .emp (.cons (.refl _) .nil))
section
variable {d:HDoc} {n:Int} {A B:List Int}
end
end Go.Proofs.K
end
section
set_option linter.unusedSimpArgs false
set_option linter.unusedVariables false
namespace Go.Proofs.K
open Go Go.Sim Go.Proofs
variable {G:U5}
section
variable {h h':Z2} {t1 z1 t2 z2:Nat} {A B:List (List AVal)} {a b:AVal}
end
end Go.Proofs.K
end
section
set_option linter.unusedSimpArgs false
set_option linter.unusedVariables false
namespace Go.Proofs.K
open Go Go.Sim Go.Proofs
section
variable {d:HDoc}
end
end Go.Proofs.K
end
section
set_option linter.unusedSimpArgs false
set_option linter.unusedVariables false
namespace Go.Proofs.K
open Go Go.Sim Go.Proofs
theorem sub_flat {f:Int->List Int}:∀ {l:List Int} {k:Int},k∈l->(f k).Sublist (l.flatMap f)
 | [],k,h=>by cases h
 | x :: l,k,h=>by
   rw [List.flatMap_cons]
   rcases List.mem_cons.1 h with rfl | h
   ·exact List.sublist_append_left _ _
   ·exact (sub_flat h).trans (List.sublist_append_right _ _)
section
variable {d:HDoc}
theorem below_sub (V:DV d):∀ n,inD d n -> ∀ p∈J8 d n,(J8 d p).Sublist (J8 d n):=V.down fun n hn ih p hp=>by
 by_cases e:p=n
 ·rw [e];exact List.Sublist.refl _
 ·rw [V9 V hn] at hp ⊢
  rcases List.mem_cons.1 hp with h | hp
  ·exact absurd h e
  ·obtain ⟨k,hk,hp⟩:=List.mem_flatMap.1 hp
   exact (ih k hk p hp).trans (List.Sublist.cons _ (sub_flat hk))
theorem kids_flat (V:DV d):∀ l:List Int,(∀ k∈l,inD d k)->l.Sublist (l.flatMap (J8 d))
 | [],_=>List.Sublist.slnil
 | k :: l,h=>by
   rw [List.flatMap_cons,V9 V (h k List.mem_cons_self),List.cons_append]
   exact List.Sublist.cons_cons _ ((kids_flat V l fun x hx=>h x (List.mem_cons_of_mem _ hx)).trans (List.sublist_append_right _ _))
theorem fam_below (V:DV d) {n p:Int} (hn:inD d n) (hp:p∈J8 d n):(p :: (nd d p).kids).Sublist (J8 d n):=by
 have hpi:=YZ V n hn p hp
 refine List.Sublist.trans ?_ (below_sub V n hn p hp)
 rw [V9 V hpi]
 exact List.Sublist.cons_cons _ (kids_flat V _ fun k hk=>(V.kid p hpi k hk).1)
theorem WX (V:DV d) {n k:Int} (hn:inD d n) (hk:k∈J8 d n) (hne:k≠n):0<=(nd d k).parent/\(nd d k).parent∈J8 d n/\k∈(nd d (nd d k).parent).kids:=by
 have hki:=YZ V n hn k hk
 have hc:=(JT V hki hn).1 hk
 have h0:0<=(nd d k).parent:=Classical.byContradiction fun h=>by
  rw [JK V h] at hc
  exact hne (List.mem_singleton.1 hc).symm
 obtain ⟨hp,hpk⟩:=V.par_in hki h0
 rw [ZQ V hki h0] at hc
 rcases List.mem_cons.1 hc with h | h
 ·exact absurd h.symm hne
 ·exact ⟨h0,(JT V hp hn).2 h,hpk⟩
end
section
variable {A K:List Int}
theorem cut_at {j:Nat} (hj:j<A.length):A=A.take j++nth A j :: A.drop (j+1):=by
 conv=>lhs;rw [<-List.take_append_drop j A]
 congr 1
 rw [List.drop_eq_getElem_cons hj]
 congr 1
 unfold nth;rw [List.getD_eq_getElem?_getD,List.getElem?_eq_getElem hj];rfl
theorem nodup_cut (h:A.Nodup) {j:Nat} (hj:j<A.length):nth A j∉A.take j/\nth A j∉A.drop (j+1) /\ ∀ x∈A.take j,x∉A.drop (j+1):=by
 rw [cut_at hj,List.nodup_append] at h
 obtain ⟨h1,h2,h3⟩:=h
 rw [List.nodup_cons] at h2
 exact ⟨fun q=>h3 _ q _ List.mem_cons_self rfl,h2.1,fun x hx q=>h3 _ hx _ (List.mem_cons_of_mem _ q) rfl⟩
theorem fil_step (hK:K.Sublist A) (h:A.Nodup) {j:Nat} (hj:j<A.length) :
 K.filter (· ∈ A.take (j+1))=if nth A j∈K then K.filter (· ∈ A.take j)++[nth A j] else K.filter (· ∈ A.take j):=by
 obtain ⟨n1,n2,n3⟩:=nodup_cut h hj
 rw [cut_at hj] at hK
 obtain ⟨K1,K2,rfl,s1,s2⟩:=List.sublist_append_iff.1 hK
 have m1:∀ x∈K1,x∈A.take j:=fun x hx=>s1.subset hx
 have tk:A.take (j+1)=A.take j++[nth A j]:=KZ hj
 have f1:K1.filter (· ∈ A.take j)=K1:=List.filter_eq_self.2 fun x hx=>by simpa using m1 x hx
 have f2:K1.filter (· ∈ A.take (j+1))=K1:=List.filter_eq_self.2 fun x hx=>by rw [tk];simp [m1 x hx]
 have out:∀ L:List Int,L.Sublist (A.drop (j+1))->L.filter (· ∈ A.take j)=[]/\L.filter (· ∈ A.take (j+1))=[]/\nth A j∉L:=fun L hL=>
  ⟨List.filter_eq_nil_iff.2 fun x hx=>by simpa using fun q=>n3 x q (hL.subset hx),
   List.filter_eq_nil_iff.2 fun x hx=>by
    rw [tk]
    simp only [List.mem_append,List.mem_singleton,decide_eq_true_eq]
    rintro (q | q)
    ·exact n3 x q (hL.subset hx)
    ·exact n2 (q ▸ hL.subset hx),
   fun q=>n2 (hL.subset q)⟩
 rw [List.filter_append,List.filter_append,f1,f2]
 rcases List.sublist_cons_iff.1 s2 with h2 | ⟨L,rfl,h2⟩
 ·obtain ⟨o1,o2,o3⟩:=out K2 h2
  rw [o1,o2,if_neg]
  rw [List.mem_append]
  rintro (q | q)
  ·exact n1 (m1 _ q)
  ·exact o3 q
 ·obtain ⟨o1,o2,o3⟩:=out L h2
  rw [if_pos (by simp),List.filter_cons_of_pos (by rw [tk];simp),List.filter_cons_of_neg (by simpa using n1),o1,o2,List.append_nil]
theorem fil_all (hK:K.Sublist A):K.filter (· ∈ A.take A.length)=K:=List.filter_eq_self.2 fun x hx=>by
 rw [List.take_length];simpa using hK.subset hx
theorem pair_pos {p:Int} {j:Nat} (hj:j<A.length) (h:A.Nodup) (hs:[p,nth A j].Sublist A):p∈A.take j:=by
 obtain ⟨n1,n2,n3⟩:=nodup_cut h hj
 have e:=cut_at hj
 generalize nth A j=k at *
 have hs':[p,k].Sublist (A.take j++(k :: A.drop (j+1))):=e ▸ hs
 obtain ⟨K1,K2,e1,s1,s2⟩:=List.sublist_append_iff.1 hs'
 cases K1 with
 | nil=>
   exfalso
   rw [List.nil_append] at e1
   subst e1
   rcases List.sublist_cons_iff.1 s2 with h2 | ⟨L,e2,h2⟩
   ·exact n2 (h2.subset (by simp))
   ·cases e2;exact n2 (h2.subset (by simp))
 | cons x K1=>
   rw [List.cons_append] at e1
   injection e1 with e1 e2
   rw [e1];exact s1.subset List.mem_cons_self
def ix (l:List Int) (c:Int):Int:=idxM (· == c) l
theorem JQ (h:A.Nodup) {j:Nat} (hj:j<A.length):ix A (nth A j)=j:=by
 refine idxM_some hj (fun i hi=>?_) (by simp)
 obtain ⟨n1,_,_⟩:=nodup_cut h hj
 rw [beq_eq_false_iff_ne]
 intro e
 refine n1 (e ▸ ?_)
 have hi':i<A.length:=by omega
 have e1:nth A i=A[i]:=by unfold nth;rw [List.getD_eq_getElem?_getD,List.getElem?_eq_getElem hi'];rfl
 rw [e1]
 exact List.mem_take_iff_getElem.2 ⟨i,by omega,rfl⟩
theorem ix_mem (h:A.Nodup) {c:Int} {j:Nat} (hj:j<=A.length) (hc:c∈A.take j):∃ i,i<j/\i<A.length/\nth A i=c/\ix A c=i:=by
 obtain ⟨i,hi,e⟩:=List.mem_iff_getElem.1 hc
 rw [List.length_take] at hi
 have hi':i<A.length:=by omega
 have:nth A i=c:=by
  rw [<-e]
  unfold nth;rw [List.getD_eq_getElem?_getD,List.getElem?_eq_getElem hi',List.getElem_take];rfl
 exact ⟨i,by omega,hi',this,by rw [<-this];exact JQ h hi'⟩
end
def cpN (d:HDoc) (A:List Int) (n:Int) (j:Nat) (k:Int):HNode:=
 { nd d k with parent:=if k=n then -1 else d.nodes.length+ix A (nd d k).parent,kids:=((nd d k).kids.filter (· ∈ A.take j)).map fun c=>(d.nodes.length:Int)+ix A c }
def cpD (d:HDoc) (n:Int) (j:Nat):HDoc:=⟨d.nodes++((J8 d n).take j).map (cpN d (J8 d n) n j),d.quirks⟩
def cpX (d:HDoc) (A:List Int) (n:Int) (k:Int):HNode:={ nd d k with parent:=if k=n then -1 else d.nodes.length+ix A (nd d k).parent,kids:=[] }
section
variable {d:HDoc}
theorem cpD_len (n:Int) {j:Nat} (hj:j<=(J8 d n).length):(cpD d n j).nodes.length=d.nodes.length+j:=by
 unfold cpD;rw [List.length_append,List.length_map,List.length_take];omega
theorem cpD_zero (n:Int):cpD d n 0=d:=by unfold cpD;simp
theorem cpD_old (n:Int) (j:Nat) {i:Nat} (hi:i<d.nodes.length):nth (cpD d n j).nodes i=nth d.nodes i:=by
 unfold cpD nth;rw [List.getD_eq_getElem?_getD,List.getD_eq_getElem?_getD,List.getElem?_append_left hi]
theorem cpD_new (n:Int) {j i:Nat} (hj:j<=(J8 d n).length) (hi:i<j):nth (cpD d n j).nodes (d.nodes.length+i)=cpN d (J8 d n) n j (nth (J8 d n) i):=by
 unfold cpD nth
 rw [List.getD_eq_getElem?_getD,List.getElem?_append_right (by omega),List.getElem?_map,show d.nodes.length+i-d.nodes.length=i by omega,List.getElem?_take_of_lt hi,List.getElem?_eq_getElem (by omega),List.getD_eq_getElem?_getD,List.getElem?_eq_getElem (by omega)];rfl
theorem cp_first (V:DV d) {n:Int} (hn:inD d n):nth (J8 d n) 0=n:=by rw [V9 V hn];rfl
theorem cp_self (V:DV d) {n:Int} (hn:inD d n) {j:Nat} (hj:j<(J8 d n).length):nth (J8 d n) j=n↔j=0:=by
 constructor
 ·intro e
  have:=JQ (U2 V n hn) hj
  have h0:=JQ (U2 V n hn) (show 0<(J8 d n).length by omega)
  rw [cp_first V hn] at h0
  rw [e,h0] at this
  omega
 ·rintro rfl;exact cp_first V hn
theorem cp_begin (V:DV d) {n:Int} (hn:inD d n):cpD d n 1=UV d (cpX d (J8 d n) n n):=by
 have hl:0<(J8 d n).length:=by rw [V9 V hn];simp
 have h0:=cp_first V hn
 have tk:(J8 d n).take 1=[n]:=by rw [V9 V hn];rfl
 unfold cpD UV
 rw [tk]
 have e:cpN d (J8 d n) n 1 n=cpX d (J8 d n) n n:=by
  unfold cpN cpX
  have:(nd d n).kids.filter (· ∈ (J8 d n).take 1)=[]:=List.filter_eq_nil_iff.2 fun c hc=>by
   rw [tk]
   have:=V.up_kid hn hc
   simp only [List.mem_singleton,decide_eq_true_eq]
   intro e;rw [e] at this;omega
  rw [this];rfl
 rw [List.map_cons,List.map_nil,e]
theorem cp_par (V:DV d) {n:Int} (hn:inD d n) {j:Nat} (hj:j<(J8 d n).length) (h0:0<j) :
 ∃ i,i<j/\nth (J8 d n) i=(nd d (nth (J8 d n) j)).parent/\ix (J8 d n) (nd d (nth (J8 d n) j)).parent=i:=by
 have nu:=U2 V n hn
 have hne:nth (J8 d n) j≠n:=fun e=>by have:=(cp_self V hn hj).1 e;omega
 obtain ⟨p0,p1,p2⟩:=WX V hn (U8 hj) hne
 have hs:[(nd d (nth (J8 d n) j)).parent,nth (J8 d n) j].Sublist (J8 d n):=
  (List.Sublist.cons_cons _ (List.singleton_sublist.2 p2)).trans (fam_below V hn p1)
 obtain ⟨i,a,_,b,c⟩:=ix_mem nu (Nat.le_of_lt hj) (pair_pos hj nu hs)
 exact ⟨i,a,b,c⟩
theorem cp_step (V:DV d) {n:Int} (hn:inD d n) {j i:Nat} (hj:j<(J8 d n).length) (h0:0<j) (hi:i<j) (hp:nth (J8 d n) i=(nd d (nth (J8 d n) j)).parent) :
 cpD d n (j+1)=UV (setN (cpD d n j) ((d.nodes.length+i:Nat):Int) { nth (cpD d n j).nodes (d.nodes.length+i) with kids:=(nth (cpD d n j).nodes (d.nodes.length+i)).kids++[((d.nodes.length+j:Nat):Int)] }) (cpX d (J8 d n) n (nth (J8 d n) j)):=by
 have nu:=U2 V n hn
 obtain ⟨A,hA⟩:∃ A,J8 d n=A:=⟨_,rfl⟩
 have fam:=fun {p:Int} (h:p∈J8 d n)=>fam_below V hn h
 have lj:=cpD_len (d:=d) n (Nat.le_of_lt hj)
 have lj1:=cpD_len (d:=d) n (show j+1<=(J8 d n).length from hj)
 have hne:nth (J8 d n) j≠n:=fun e=>by have:=(cp_self V hn hj).1 e;omega
 obtain ⟨p0,p1,p2⟩:=WX V hn (U8 hj) hne
 rw [<-hp] at p1 p2
 have one:∀ q∈J8 d n,nth (J8 d n) j∈(nd d q).kids↔q=nth (J8 d n) i:=fun q hq=>by
  constructor
  ·intro h
   have h1:=(V.kid q (YZ V n hn q hq) _ h).2
   rw [hp,h1]
  ·rintro rfl;exact p2
 have ij:=JQ nu hj
 have eq:(cpD d n (j+1)).quirks=d.quirks:=rfl
 have nodes:(cpD d n (j+1)).nodes=(UV (setN (cpD d n j) ((d.nodes.length+i:Nat):Int) { nth (cpD d n j).nodes (d.nodes.length+i) with kids:=(nth (cpD d n j).nodes (d.nodes.length+i)).kids++[((d.nodes.length+j:Nat):Int)] }) (cpX d (J8 d n) n (nth (J8 d n) j))).nodes:=by
  refine ext_nth (by rw [lj1,VU,setN_len,lj];omega) fun t ht=>?_
  rw [lj1] at ht
  have hset:∀ y,nth ((cpD d n j).nodes.set (d.nodes.length+i) y) t=if t=d.nodes.length+i then y else nth (cpD d n j).nodes t:=fun y=>nth_set _ _ _ _ (by rw [lj];omega)
  have hap:∀ (l:List HNode) y,l.length=d.nodes.length+j->nth (l++[y]) t=if t<d.nodes.length+j then nth l t else y:=fun l y hl=>by
   unfold nth
   rw [List.getD_eq_getElem?_getD,List.getD_eq_getElem?_getD]
   by_cases h:t<d.nodes.length+j
   ·rw [if_pos h,List.getElem?_append_left (by omega)]
   ·rw [if_neg h,show t=l.length by omega];simp
  unfold UV setN
  show _=nth ((cpD d n j).nodes.set (Int.toNat ((d.nodes.length+i:Nat):Int)) _++[_]) t
  rw [hap _ _ (by rw [List.length_set,lj]),Int.toNat_natCast,hset]
  by_cases t1:t<d.nodes.length
  ·rw [if_pos (by omega),if_neg (by omega),cpD_old n _ t1,cpD_old n _ t1]
  ·by_cases t2:t<d.nodes.length+j
   ·rw [if_pos t2]
    obtain ⟨s,rfl⟩:∃ s,t=d.nodes.length+s:=⟨t-d.nodes.length,by omega⟩
    have hs:s<j:=by omega
    have sm:nth (J8 d n) s∈J8 d n:=U8 (by omega)
    rw [cpD_new n hj (by omega),cpD_new n (Nat.le_of_lt hj) hs]
    have fs:=fil_step (K:=(nd d (nth (J8 d n) s)).kids) ((fam sm).trans (List.Sublist.refl _) |> fun h=>(List.sublist_cons_self _ _).trans h) nu hj
    by_cases t3:s=i
    ·subst t3
     rw [if_pos rfl,cpD_new n (Nat.le_of_lt hj) hs]
     unfold cpN
     rw [fs,if_pos p2,List.map_append,List.map_cons,List.map_nil,ij]
     simp
    ·rw [if_neg (by omega)]
     have hno:nth (J8 d n) j∉(nd d (nth (J8 d n) s)).kids:=fun h=>by
      have e:=(one _ sm).1 h
      have e1:=JQ nu (show s<(J8 d n).length by omega)
      have e2:=JQ nu (show i<(J8 d n).length by omega)
      rw [e,e2] at e1
      omega
     unfold cpN
     rw [fs,if_neg hno]
   ·rw [if_neg t2]
    obtain rfl:t=d.nodes.length+j:=by omega
    rw [cpD_new n hj (by omega)]
    unfold cpN cpX
    have:(nd d (nth (J8 d n) j)).kids.filter (· ∈ (J8 d n).take (j+1))=[]:=List.filter_eq_nil_iff.2 fun c hc=>by
     simp only [decide_eq_true_eq]
     intro hcm
     obtain ⟨s,s1,s2,s3,_⟩:=ix_mem nu hj hcm
     have hs:[nth (J8 d n) j,nth (J8 d n) s].Sublist (J8 d n):=by
      rw [s3]
      exact (List.Sublist.cons_cons _ (List.singleton_sublist.2 hc)).trans (fam (U8 hj))
     obtain ⟨u,u1,_,u3,_⟩:=ix_mem nu (Nat.le_of_lt s2) (pair_pos s2 nu hs)
     have e1:=JQ nu (show u<(J8 d n).length by omega)
     rw [u3,ij] at e1
     omega
    rw [this];rfl
 have:∀ a b:HDoc,a.nodes=b.nodes->a.quirks=b.quirks->a=b:=fun a b h1 h2=>by cases a;cases b;cases h1;cases h2;rfl
 exact this _ _ nodes rfl
def cpR (d:HDoc) (n:Int) (k:Int):HNode:={ nd d k with parent:=if k=n then -1 else d.nodes.length+ix (J8 d n) (nd d k).parent,kids:=(nd d k).kids.map fun c=>(d.nodes.length:Int)+ix (J8 d n) c }
def cpT (d:HDoc) (n:Int) (j:Nat):HDoc:=⟨d.nodes++((J8 d n).take j).map (cpR d n),d.quirks⟩
theorem cp_all (V:DV d) {n:Int} (hn:inD d n):cpD d n (J8 d n).length=cpT d n (J8 d n).length:=by
 unfold cpD cpT
 congr 2
 refine List.map_congr_left fun k hk=>?_
 unfold cpN cpR
 rw [fil_all ((List.sublist_cons_self _ _).trans (fam_below V hn (List.mem_of_mem_take hk)))]
end
end Go.Proofs.K
end
section
set_option linter.unusedSimpArgs false
set_option linter.unusedVariables false
namespace Go.Proofs.K
open Go Go.Sim Go.Proofs
variable {G:U5}
end Go.Proofs.K
end
