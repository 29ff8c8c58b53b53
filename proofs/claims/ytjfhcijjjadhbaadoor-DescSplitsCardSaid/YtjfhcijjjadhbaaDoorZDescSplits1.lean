import Derived.Test.YtjfhcijjjadhbaaDoorZDescSplits0
import Derived.ArgAppend
import Derived.Below
import Derived.BigQuiet
import Derived.ChangeOld
import Derived.DataReads
import Derived.Deep.AppendLies
import Derived.Deep.CutBlock
import Derived.Deep.DeepCutAuto
import Derived.Deep.DeepHandedRow
import Derived.Deep.DeepWitnessRowRef
import Derived.Deep.DrawnRows
import Derived.Deep.Draws
import Derived.Deep.LoopGhost
import Derived.Deep.OwnRows
import Derived.Deep.QuietTactic
import Derived.Deep.RegionHeld3
import Derived.KernelRfl
import Derived.LaidHandle
import Derived.LaidMore
import Derived.Laws.BitsLemmas
import Derived.Laws.BytesArg
import Derived.Laws.Externs
import Derived.Laws.IdiomCopy
import Derived.Laws.MakeOwn
import Derived.Laws.OwnMore
import Derived.Laws.Rows
import Derived.Laws.Slices
import Derived.Laws.Strings
import Derived.Lib.AppendStr
import Derived.Lib.Builder
import Derived.Lib.ConvBytes
import Derived.Lib.Hide
import Derived.Lib.IndexMore
import Derived.Lib.ItoaLen
import Derived.Lib.LaidTab
import Derived.Lib.MakeNoZero
import Derived.Lib.ParseIntB
import Derived.Lib.Slices
import Derived.Lib.Strings
import Derived.Lib.UnsafeStr
import Derived.Lib.Walk
import Derived.LoopIn
import Derived.LoopNIn
import Derived.LoopTactic
import Derived.Maps.AppendAt
import Derived.OpenShut
import Derived.OrdersHeld
import Derived.OrdersIn
import Derived.Outline
import Derived.OwnWalk
import Derived.OwnWalkIn
import Derived.ProofKit
import Derived.RangeFuncBound
import Derived.RangeFuncBox
import Derived.RangeFuncCalls
import Derived.RangeFuncLeaves
import Derived.RangeFuncNested
import Derived.RowKit
import Derived.RowKit3
import Derived.Shelf.Abstract
import Derived.Shelf.LaysC
import Derived.Shelf.LaysM
import Derived.Shelf.RegionOpen
import Derived.Shelf.Strconv.Clone
import Derived.Shelf.Strconv.ErrVarParseInt
import Derived.Shelf.Strconv.Itoa0
import Derived.Shelf.Strconv.Itoa1
import Derived.Shelf.Strconv.Itoa2
import Derived.Shelf.Strconv.Itoa3
import Derived.Shelf.Strconv.Itoa4
import Derived.Shelf.Strconv.Lower
import Derived.Shelf.Strconv.ParseInt10
import Derived.Shelf.Strconv.ParseInt10All
import Derived.Shelf.Strconv.ParseInt10At16
import Derived.Shelf.Strconv.ParseInt10At32
import Derived.Shelf.Strconv.ParseInt10At64
import Derived.Shelf.Strconv.ParseInt10At8
import Derived.Shelf.Strconv.ParseIntEmpty
import Derived.Shelf.Strconv.ParseIntPublic10
import Derived.Shelf.Strconv.ParseUint10
import Derived.Shelf.Strconv.ParseUint10Any
import Derived.Shelf.Strconv.ParseUint10At
import Derived.Shelf.Strconv.ParseUint10Empty
import Derived.Shelf.Strconv.ParseUint10b16
import Derived.Shelf.Strconv.ParseUint10b32
import Derived.Shelf.Strconv.ParseUint10b64
import Derived.Shelf.Strconv.ParseUint10b8
import Derived.Shelf.Strconv.ParseUintEmpty
import Derived.Shelf.Strconv.RangeError
import Derived.Shelf.Strconv.SyntaxError
import Derived.Shelf.Strconv.ToError
import Derived.Shelf.Strconv.ToErrorRange
import Derived.Shelf.Strings.Builder1
import Derived.Shelf.Strings.BuilderF
import Derived.Shelf.Strings.BuilderK
import Derived.Shelf.Strings.Cut
import Derived.Shelf.Strings.Search1
import Derived.Shelf.Strings.Search2
import Derived.Shelf.Strings.Shaped
import Derived.Shelf.Vars
import Derived.ShutString
import Derived.SizedLaws
import Derived.Tactics
import Derived.TacticsInMore
import Derived.WalkKit
import Derived.WalkSmall
import Derived.WideLaws
import GoSem.ClaimJoined
import Derived.Test.YtjfhcijjjadhbaaDoorCards
import Derived.Test.YtjfhcijjjadhbaaDoorProg
import Derived.Test.YtjfhcijjjadhbaaDoorRows
import Derived.Test.YtjfhcijjjadhbaaDoorTie
set_option linter.unusedVariables false
set_option linter.unusedSimpArgs false
set_option linter.unnecessarySimpa false
section
namespace Go.Proofs
open Go.Shelf
def Tryd.lays169_ren : Go.Shelf.Ren := ⟨fun | 169 => 68 | n => n, fun | 70 => 101 | 9 => 9 | 0 => 0 | 72 => 104 | 37 => 102 | 127 => 118 | 3 => 3 | 5 => 5 | n => n, fun | n => n⟩
theorem Tryd.lays169 : Go.Proofs.Lays.n169 Tryd.prog Tryd.lays169_ren := {
 mixed := by kernel_rfl
 f169 := Tryd.func68.trans (congrArg some (by kernel_rfl))
 t0 := Tryd.underlying0
 a0 := Tryd.isAgg0
 z0 := Tryd.sizeOf0
 v0 := Tryd.zeroValue0
 t3 := Tryd.underlying3
 a3 := Tryd.isAgg3
 z3 := Tryd.sizeOf3
 v3 := Tryd.zeroValue3
 t9 := Tryd.underlying9
 a9 := Tryd.isAgg9
 z9 := Tryd.sizeOf9
 v9 := Tryd.zeroValue9
 t37 := Tryd.underlying102
 a37 := Tryd.isAgg102
 z37 := Tryd.sizeOf102
 v37 := Tryd.zeroValue102
 t70 := Tryd.underlying101
 a70 := Tryd.isAgg101
 z70 := Tryd.sizeOf101
 v70 := Tryd.zeroValue101
 t72 := Tryd.underlying104
 a72 := Tryd.isAgg104
 z72 := Tryd.sizeOf104
 v72 := Tryd.zeroValue104
 t127 := Tryd.underlying118
 a127 := Tryd.isAgg118
 z127 := Tryd.sizeOf118
 v127 := Tryd.zeroValue118 }
theorem Tryd.Builder_Extra_169 : Builder.Extra Tryd.prog Tryd.lays169_ren := {
 sizeBuilder := by kernel_rfl
 liesBuilder := by kernel_rfl
 t5 := Tryd.underlying5
 a5 := Tryd.isAgg5
 z5 := Tryd.sizeOf5
 v5 := Tryd.zeroValue5
 infoByte := by kernel_rfl
 cellsByte := by kernel_rfl
 sizeByte := by kernel_rfl
 neB5 := by decide }
open Go.RowKit in
/-- (*strings.Builder).String: "String returns the accumulated string.": WHATEVER THE BUILDER HOLDS. (LAID: no walk: one application.) -/
theorem Tryd.Builder_String_any (B b : Nat) (l : List UInt8) (w : World) (h : Lib.IsBuilder 104 5 B b (Lib.byteCells l) w) (hBw : B ≤ w.heap.size) :
 Calls Tryd.prog 68 #[.pointer (some ⟨b, 0, none⟩)] w fun e w' => e = .returned (.string ⟨l.toArray⟩) ∧ Below B w w' := Any.Builder_String_any Tryd.lays169 Tryd.Builder_Extra_169 B b l w h hBw
def Tryd.laysM173_ren : Go.Shelf.Ren := ⟨fun | 173 => 65 | 246 => 74 | 283 => 78 | 284 => 79 | 285 => 80 | 286 => 81 | 129 => 87 | 317 => 86 | 318 => 88 | 319 => 89 | 320 => 90 | 337 => 97 | 338 => 98 | n => n, fun | 2 => 2 | 3 => 3 | 9 => 9 | 4 => 4 | 171 => 124 | 0 => 0 | 53 => 125 | 37 => 102 | 5 => 5 | 173 => 128 | 212 => 134 | 51 => 135 | 20 => 20 | 213 => 136 | 46 => 137 | 232 => 153 | 233 => 154 | n => n, fun | 17 => 0 | 18 => 4 | 19 => 5 | n => n⟩
theorem Tryd.laysM173 : Go.Proofs.LaysM.n173 Tryd.prog Tryd.laysM173_ren := {
 mixed := by kernel_rfl
 f129 := Tryd.func87.trans (congrArg some (by kernel_rfl))
 f173 := Tryd.func65.trans (congrArg some (by kernel_rfl))
 f246 := Tryd.func74.trans (congrArg some (by kernel_rfl))
 f283 := Tryd.func78.trans (congrArg some (by kernel_rfl))
 f284 := Tryd.func79.trans (congrArg some (by kernel_rfl))
 f285 := Tryd.func80.trans (congrArg some (by kernel_rfl))
 f286 := Tryd.func81.trans (congrArg some (by kernel_rfl))
 f317 := Tryd.func86.trans (congrArg some (by kernel_rfl))
 f318 := Tryd.func88.trans (congrArg some (by kernel_rfl))
 f319 := Tryd.func89.trans (congrArg some (by kernel_rfl))
 f320 := Tryd.func90.trans (congrArg some (by kernel_rfl))
 f337 := Tryd.func97.trans (congrArg some (by kernel_rfl))
 f338 := Tryd.func98.trans (congrArg some (by kernel_rfl))
 t0 := Tryd.underlying0
 a0 := Tryd.isAgg0
 z0 := Tryd.sizeOf0
 v0 := Tryd.zeroValue0
 t2 := Tryd.underlying2
 a2 := Tryd.isAgg2
 z2 := Tryd.sizeOf2
 v2 := Tryd.zeroValue2
 t3 := Tryd.underlying3
 a3 := Tryd.isAgg3
 z3 := Tryd.sizeOf3
 v3 := Tryd.zeroValue3
 t4 := Tryd.underlying4
 a4 := Tryd.isAgg4
 z4 := Tryd.sizeOf4
 v4 := Tryd.zeroValue4
 t5 := Tryd.underlying5
 a5 := Tryd.isAgg5
 z5 := Tryd.sizeOf5
 v5 := Tryd.zeroValue5
 t9 := Tryd.underlying9
 a9 := Tryd.isAgg9
 z9 := Tryd.sizeOf9
 v9 := Tryd.zeroValue9
 t20 := Tryd.underlying20
 a20 := Tryd.isAgg20
 z20 := Tryd.sizeOf20
 v20 := Tryd.zeroValue20
 t37 := Tryd.underlying102
 a37 := Tryd.isAgg102
 z37 := Tryd.sizeOf102
 v37 := Tryd.zeroValue102
 t46 := Tryd.underlying137
 a46 := Tryd.isAgg137
 z46 := Tryd.sizeOf137
 v46 := Tryd.zeroValue137
 t51 := Tryd.underlying135
 a51 := Tryd.isAgg135
 z51 := Tryd.sizeOf135
 v51 := Tryd.zeroValue135
 t53 := Tryd.underlying125
 a53 := Tryd.isAgg125
 z53 := Tryd.sizeOf125
 v53 := Tryd.zeroValue125
 t171 := Tryd.underlying124
 a171 := Tryd.isAgg124
 z171 := Tryd.sizeOf124
 v171 := Tryd.zeroValue124
 t173 := Tryd.underlying128
 a173 := Tryd.isAgg128
 z173 := Tryd.sizeOf128
 v173 := Tryd.zeroValue128
 t212 := Tryd.underlying134
 a212 := Tryd.isAgg134
 z212 := Tryd.sizeOf134
 v212 := Tryd.zeroValue134
 t213 := Tryd.underlying136
 a213 := Tryd.isAgg136
 z213 := Tryd.sizeOf136
 t232 := Tryd.underlying153
 a232 := Tryd.isAgg153
 z232 := Tryd.sizeOf153
 v232 := Tryd.zeroValue153
 t233 := Tryd.underlying154
 a233 := Tryd.isAgg154
 z233 := Tryd.sizeOf154
 v233 := Tryd.zeroValue154
 g17 := by kernel_rfl
 g18 := by kernel_rfl
 g19 := by kernel_rfl
 i0 := by kernel_rfl
 i2 := by kernel_rfl
 i3 := by kernel_rfl
 i4 := by kernel_rfl
 i5 := by kernel_rfl
 i9 := by kernel_rfl
 i20 := by kernel_rfl
 i37 := by kernel_rfl
 i46 := by kernel_rfl
 i51 := by kernel_rfl
 i53 := by kernel_rfl
 i171 := by kernel_rfl
 i173 := by kernel_rfl
 i212 := by kernel_rfl
 i232 := by kernel_rfl
 i233 := by kernel_rfl
 m17 := by kernel_rfl
 m18 := by kernel_rfl
 m19 := by kernel_rfl }
open Go.RowKit Go.Sort Go.Lib in
/-- strconv.FormatInt: "FormatInt returns the string representation of i in the given base": AT BASE 10: i's decimal numeral, for every int64. (LAID: no walk: one application.) -/
theorem Tryd.strconv_FormatInt_10 (n : Int) (h0 : -9223372036854775808 ≤ n) (h1 : n ≤ 9223372036854775807) (w : World) (htab : Lib.TabIs Tryd.prog w "internal/strconv.uint64pow10" .u64 Lib.pow10Tab) :
 Calls Tryd.prog 65 #[.int .i64 n, .int .i64 10] w fun e w' => e = .returned (.string ⟨(Lib.itoa n).toArray⟩) ∧ ∃ k os, w' = grow (w.drewN k) os := Any.strconv_FormatInt_10 Tryd.laysM173 n h0 h1 w htab
def Tryd.laysC174_ren : Go.Shelf.Ren := ⟨fun | 174 => 77 | 247 => 84 | 245 => 85 | 287 => 92 | 279 => 93 | 280 => 94 | 281 => 95 | 282 => 96 | 321 => 103 | 322 => 104 | 316 => 105 | 171 => 107 | 205 => 106 | 243 => 110 | 246 => 74 | 283 => 78 | 284 => 79 | 285 => 80 | 286 => 81 | 129 => 87 | 317 => 86 | 318 => 88 | 319 => 89 | 320 => 90 | 337 => 97 | 338 => 98 | n => n, fun | 9 => 9 | 3 => 3 | 2 => 2 | 75 => 106 | 85 => 121 | 4 => 4 | 167 => 140 | 5 => 5 | 53 => 125 | 175 => 141 | 46 => 137 | 168 => 143 | 37 => 102 | 0 => 0 | 210 => 151 | 21 => 21 | 127 => 118 | 145 => 159 | 143 => 157 | 171 => 124 | 173 => 128 | 212 => 134 | 51 => 135 | 20 => 20 | 213 => 136 | 232 => 153 | 233 => 154 | 80 => 110 | n => n, fun | 15 => 2 | 16 => 3 | 17 => 0 | 18 => 4 | 19 => 5 | n => n⟩
theorem Tryd.laysC174 : Go.Proofs.LaysC.n174 Tryd.prog Tryd.laysC174_ren := {
 mixed := by kernel_rfl
 f129 := Tryd.func87.trans (congrArg some (by kernel_rfl))
 f171 := Tryd.func107.trans (congrArg some (by kernel_rfl))
 f174 := Tryd.func77.trans (congrArg some (by kernel_rfl))
 f205 := Tryd.func106.trans (congrArg some (by kernel_rfl))
 f243 := Tryd.func110.trans (congrArg some (by kernel_rfl))
 f245 := Tryd.func85.trans (congrArg some (by kernel_rfl))
 f246 := Tryd.func74.trans (congrArg some (by kernel_rfl))
 f247 := Tryd.func84.trans (congrArg some (by kernel_rfl))
 f279 := Tryd.func93.trans (congrArg some (by kernel_rfl))
 f280 := Tryd.func94.trans (congrArg some (by kernel_rfl))
 f281 := Tryd.func95.trans (congrArg some (by kernel_rfl))
 f282 := Tryd.func96.trans (congrArg some (by kernel_rfl))
 f283 := Tryd.func78.trans (congrArg some (by kernel_rfl))
 f284 := Tryd.func79.trans (congrArg some (by kernel_rfl))
 f285 := Tryd.func80.trans (congrArg some (by kernel_rfl))
 f286 := Tryd.func81.trans (congrArg some (by kernel_rfl))
 f287 := Tryd.func92.trans (congrArg some (by kernel_rfl))
 f316 := Tryd.func105.trans (congrArg some (by kernel_rfl))
 f317 := Tryd.func86.trans (congrArg some (by kernel_rfl))
 f318 := Tryd.func88.trans (congrArg some (by kernel_rfl))
 f319 := Tryd.func89.trans (congrArg some (by kernel_rfl))
 f320 := Tryd.func90.trans (congrArg some (by kernel_rfl))
 f321 := Tryd.func103.trans (congrArg some (by kernel_rfl))
 f322 := Tryd.func104.trans (congrArg some (by kernel_rfl))
 f337 := Tryd.func97.trans (congrArg some (by kernel_rfl))
 f338 := Tryd.func98.trans (congrArg some (by kernel_rfl))
 t0 := Tryd.underlying0
 a0 := Tryd.isAgg0
 z0 := Tryd.sizeOf0
 v0 := Tryd.zeroValue0
 t2 := Tryd.underlying2
 a2 := Tryd.isAgg2
 z2 := Tryd.sizeOf2
 v2 := Tryd.zeroValue2
 t3 := Tryd.underlying3
 a3 := Tryd.isAgg3
 z3 := Tryd.sizeOf3
 v3 := Tryd.zeroValue3
 t4 := Tryd.underlying4
 a4 := Tryd.isAgg4
 z4 := Tryd.sizeOf4
 v4 := Tryd.zeroValue4
 t5 := Tryd.underlying5
 a5 := Tryd.isAgg5
 z5 := Tryd.sizeOf5
 v5 := Tryd.zeroValue5
 t9 := Tryd.underlying9
 a9 := Tryd.isAgg9
 z9 := Tryd.sizeOf9
 v9 := Tryd.zeroValue9
 t20 := Tryd.underlying20
 a20 := Tryd.isAgg20
 z20 := Tryd.sizeOf20
 v20 := Tryd.zeroValue20
 t21 := Tryd.underlying21
 a21 := Tryd.isAgg21
 z21 := Tryd.sizeOf21
 v21 := Tryd.zeroValue21
 t37 := Tryd.underlying102
 a37 := Tryd.isAgg102
 z37 := Tryd.sizeOf102
 v37 := Tryd.zeroValue102
 t46 := Tryd.underlying137
 a46 := Tryd.isAgg137
 z46 := Tryd.sizeOf137
 v46 := Tryd.zeroValue137
 t51 := Tryd.underlying135
 a51 := Tryd.isAgg135
 z51 := Tryd.sizeOf135
 v51 := Tryd.zeroValue135
 t53 := Tryd.underlying125
 a53 := Tryd.isAgg125
 z53 := Tryd.sizeOf125
 v53 := Tryd.zeroValue125
 t75 := Tryd.underlying106
 a75 := Tryd.isAgg106
 z75 := Tryd.sizeOf106
 v75 := Tryd.zeroValue106
 t85 := Tryd.underlying121
 a85 := Tryd.isAgg121
 z85 := Tryd.sizeOf121
 v85 := Tryd.zeroValue121
 t127 := Tryd.underlying118
 a127 := Tryd.isAgg118
 z127 := Tryd.sizeOf118
 v127 := Tryd.zeroValue118
 t143 := Tryd.underlying157
 a143 := Tryd.isAgg157
 z143 := Tryd.sizeOf157
 v143 := Tryd.zeroValue157
 t145 := Tryd.underlying159
 a145 := Tryd.isAgg159
 z145 := Tryd.sizeOf159
 v145 := Tryd.zeroValue159
 t167 := Tryd.underlying140
 a167 := Tryd.isAgg140
 z167 := Tryd.sizeOf140
 v167 := Tryd.zeroValue140
 t168 := Tryd.underlying143
 a168 := Tryd.isAgg143
 z168 := Tryd.sizeOf143
 v168 := Tryd.zeroValue143
 t171 := Tryd.underlying124
 a171 := Tryd.isAgg124
 z171 := Tryd.sizeOf124
 v171 := Tryd.zeroValue124
 t173 := Tryd.underlying128
 a173 := Tryd.isAgg128
 z173 := Tryd.sizeOf128
 v173 := Tryd.zeroValue128
 t175 := Tryd.underlying141
 a175 := Tryd.isAgg141
 z175 := Tryd.sizeOf141
 v175 := Tryd.zeroValue141
 t210 := Tryd.underlying151
 a210 := Tryd.isAgg151
 z210 := Tryd.sizeOf151
 v210 := Tryd.zeroValue151
 t212 := Tryd.underlying134
 a212 := Tryd.isAgg134
 z212 := Tryd.sizeOf134
 v212 := Tryd.zeroValue134
 t213 := Tryd.underlying136
 a213 := Tryd.isAgg136
 z213 := Tryd.sizeOf136
 t232 := Tryd.underlying153
 a232 := Tryd.isAgg153
 z232 := Tryd.sizeOf153
 v232 := Tryd.zeroValue153
 t233 := Tryd.underlying154
 a233 := Tryd.isAgg154
 z233 := Tryd.sizeOf154
 v233 := Tryd.zeroValue154
 g15 := by kernel_rfl
 g16 := by kernel_rfl
 g17 := by kernel_rfl
 g18 := by kernel_rfl
 g19 := by kernel_rfl
 t80 := Tryd.underlying110
 a80 := Tryd.isAgg110
 z80 := Tryd.sizeOf110
 v80 := Tryd.zeroValue110
 i0 := by kernel_rfl
 i2 := by kernel_rfl
 i3 := by kernel_rfl
 i4 := by kernel_rfl
 i5 := by kernel_rfl
 i9 := by kernel_rfl
 i20 := by kernel_rfl
 i21 := by kernel_rfl
 i37 := by kernel_rfl
 i46 := by kernel_rfl
 i51 := by kernel_rfl
 i53 := by kernel_rfl
 i75 := by kernel_rfl
 i80 := by kernel_rfl
 i85 := by kernel_rfl
 i127 := by kernel_rfl
 i143 := by kernel_rfl
 i145 := by kernel_rfl
 i167 := by kernel_rfl
 i168 := by kernel_rfl
 i171 := by kernel_rfl
 i173 := by kernel_rfl
 i175 := by kernel_rfl
 i210 := by kernel_rfl
 i212 := by kernel_rfl
 i232 := by kernel_rfl
 i233 := by kernel_rfl
 m15 := by kernel_rfl
 m16 := by kernel_rfl
 m17 := by kernel_rfl
 m18 := by kernel_rfl
 m19 := by kernel_rfl
 c0 := by kernel_rfl
 c2 := by kernel_rfl
 c3 := by kernel_rfl
 c4 := by kernel_rfl
 c5 := by kernel_rfl
 c9 := by kernel_rfl
 c20 := by kernel_rfl
 c21 := by kernel_rfl
 c37 := by kernel_rfl
 c46 := by kernel_rfl
 c51 := by kernel_rfl
 c53 := by kernel_rfl
 c75 := by kernel_rfl
 c80 := by kernel_rfl
 c85 := by kernel_rfl
 c127 := by kernel_rfl
 c143 := by kernel_rfl
 c145 := by kernel_rfl
 c167 := by kernel_rfl
 c168 := by kernel_rfl
 c171 := by kernel_rfl
 c173 := by kernel_rfl
 c175 := by kernel_rfl
 c210 := by kernel_rfl
 c212 := by kernel_rfl
 c213 := by kernel_rfl
 c232 := by kernel_rfl
 c233 := by kernel_rfl }
open Go.RowKit in
/-- strconv.ParseInt(s, 10, 64), AT EVERY STRING THAT SPELLS AN int64 ('Lib.parseIntB 64 s.data.toList = .ok v'): v, AND NO ERROR. (LAID: no walk: one application.) -/
theorem Tryd.strconv_ParseInt_10_at64_ok (s : ByteArray) (hmax : s.size ≤ 9223372036854775806) (v : Int) (h : Lib.parseIntB 64 s.data.toList = .ok v) (w : World) :
 Calls Tryd.prog 77 #[.string s, .int .i64 10, .int .i64 64] w fun e w' => e = .returned (.tuple #[.int .i64 v, .nilIface]) ∧ (w' = w ∨ ∃ t, w' = Lib.bytesWorld w 5 t) := Any.strconv_ParseInt_10_at64_ok Tryd.laysC174 s hmax v h w
open Go.RowKit in
/-- strconv.ParseInt(s, 10, 64), AT EVERY NUMERAL THAT NO int64 HOLDS: THE GREATEST OR THE LEAST int64, BY THE SIGN ('Lib.intSat 64'), AND AN ERROR THAT IS NOT nil: a *NumError in a new block N: {Func: "ParseInt", Num: s's bytes, Err: what the variable ErrRange holds}. Of what was there nothing has turned. (LAID: no walk: one application.) -/
theorem Tryd.strconv_ParseInt_10_at64_range (s : ByteArray) (hlim : s.size ≤ 281474976710656) (h : Lib.parseIntB 64 s.data.toList = .range) (ev : Value) (w : World) (hv : w.cell? ⟨3, 0, none⟩ = some ev) (hev : ev = .nilIface ∨ ∃ te pe, ev = .iface te pe) :
 Calls Tryd.prog 77 #[.string s, .int .i64 10, .int .i64 64] w fun e w' => ∃ N, e = .returned (.tuple #[.int .i64 (Lib.intSat 64 s.data.toList), .iface 143 (.pointer (some ⟨N, 0, none⟩))]) ∧ w.heap.size ≤ N ∧ w'.heap[N]? = some (.cells #[.string ⟨#[80, 97, 114, 115, 101, 73, 110, 116]⟩, .string s, ev] 151 (0, 0)) ∧ Below w.heap.size w w' := Any.strconv_ParseInt_10_at64_range Tryd.laysC174 s hlim h ev w hv hev
def Tryd.lays145_ren : Go.Shelf.Ren := ⟨fun | 145 => 76 | 220 => 83 | 219 => 91 | 217 => 99 | 225 => 100 | 224 => 101 | 267 => 102 | 266 => 108 | 314 => 109 | n => n, fun | 9 => 9 | 4 => 4 | 59 => 119 | 3 => 3 | 5 => 5 | 46 => 137 | 146 => 155 | 51 => 135 | n => n, fun | 1 => 1 | n => n⟩
theorem Tryd.lays145 : Go.Proofs.Lays.n145 Tryd.prog Tryd.lays145_ren := {
 mixed := by kernel_rfl
 f145 := Tryd.func76.trans (congrArg some (by kernel_rfl))
 f217 := Tryd.func99.trans (congrArg some (by kernel_rfl))
 f219 := Tryd.func91.trans (congrArg some (by kernel_rfl))
 f220 := Tryd.func83.trans (congrArg some (by kernel_rfl))
 f224 := Tryd.func101.trans (congrArg some (by kernel_rfl))
 f225 := Tryd.func100.trans (congrArg some (by kernel_rfl))
 f266 := Tryd.func108.trans (congrArg some (by kernel_rfl))
 f267 := Tryd.func102.trans (congrArg some (by kernel_rfl))
 f314 := Tryd.func109.trans (congrArg some (by kernel_rfl))
 t3 := Tryd.underlying3
 a3 := Tryd.isAgg3
 z3 := Tryd.sizeOf3
 v3 := Tryd.zeroValue3
 t4 := Tryd.underlying4
 a4 := Tryd.isAgg4
 z4 := Tryd.sizeOf4
 v4 := Tryd.zeroValue4
 t5 := Tryd.underlying5
 a5 := Tryd.isAgg5
 z5 := Tryd.sizeOf5
 v5 := Tryd.zeroValue5
 t9 := Tryd.underlying9
 a9 := Tryd.isAgg9
 z9 := Tryd.sizeOf9
 v9 := Tryd.zeroValue9
 t46 := Tryd.underlying137
 a46 := Tryd.isAgg137
 z46 := Tryd.sizeOf137
 v46 := Tryd.zeroValue137
 t51 := Tryd.underlying135
 a51 := Tryd.isAgg135
 z51 := Tryd.sizeOf135
 v51 := Tryd.zeroValue135
 t59 := Tryd.underlying119
 a59 := Tryd.isAgg119
 z59 := Tryd.sizeOf119
 v59 := Tryd.zeroValue119
 t146 := Tryd.underlying155
 a146 := Tryd.isAgg155
 z146 := Tryd.sizeOf155
 v146 := Tryd.zeroValue155
 g1 := by kernel_rfl }
open Go.RowKit Go.Lib in
/-- strings.Cut: "Cut slices s around the first instance of sep, returning the text before and after sep. The found result reports whether sep appears in s. If sep does not appear in s, cut returns s, "", false.": IT RETURNS 'Lib.cut s sep'; the world is as it was but for the count of draws. (LAID: no walk: one application.) -/
theorem Tryd.strings_Cut (s sep : ByteArray) (m : Int) (w : World) (hs : s.size < 4294967281) (hm : w.cell? ⟨1, 0, none⟩ = some (.int .i64 m)) :
 Calls Tryd.prog 76 #[.string s, .string sep] w fun e w' => e = .returned (.tuple #[.string ⟨(Lib.cut s.data.toList sep.data.toList).1.toArray⟩, .string ⟨(Lib.cut s.data.toList sep.data.toList).2.1.toArray⟩, .bool (Lib.cut s.data.toList sep.data.toList).2.2]) ∧ ∃ n, w' = w.drewN n := Any.strings_Cut Tryd.lays145 s sep m w hs hm
end Go.Proofs
end
section
namespace Go.Proofs.YtjfhcijjjadhbaaDoor.K
open Go.RowKit Go.Proofs.YtjfhcijjjadhbaaDoorW.PrintWords
theorem sizeB : (Tryd.prog.info? 104).map (·.size) = some 2 := by kernel_rfl
theorem liesB : liesAt Tryd.prog Tryd.prog.depth 104 (2 / Tryd.prog.cellsOf 104) 0 104 1 = true := by kernel_rfl
theorem infoByte : (Tryd.prog.info? 5).map (fun i => (i.zero, i.size, i.bytes)) = some (some (.int .u8 0), 1, 1) := by kernel_rfl
set_option maxHeartbeats 1000000 in
set_option maxRecDepth 100000 in
theorem copyCheck_used (b : Nat) (w : World) (h0 : w.cell? ⟨b, 0, none⟩ = some (.pointer (some ⟨b, 0, none⟩))) :
 Calls Tryd.prog 75 #[.pointer (some ⟨b, 0, none⟩)] w fun e w' => e = .returned (.tuple #[]) ∧ w' = w := by
 obtain ⟨j, hj, _⟩ := Option.map_eq_some_iff.1 sizeB
 go_enter Tryd.func75, Tryd.ntmps75
 go_wp2
 rw [Lib.run_neq_ptr_same w _ Tryd.underlying101 hj]
 go_wp2
 go_end0
 exact ⟨rfl, rfl⟩
set_option maxHeartbeats 1000000 in
set_option maxRecDepth 100000 in
theorem copyCheck_fresh (b : Nat) (w : World) (h0 : w.cell? ⟨b, 0, none⟩ = some (.pointer none)) (hsh : w.shape? b = some (104, 2)) (hfz : w.frozen? ⟨b, 0, none⟩ = false) :
 Calls Tryd.prog 75 #[.pointer (some ⟨b, 0, none⟩)] w fun e w' => e = .returned (.tuple #[]) ∧ w' = w.setCell ⟨b, 0, none⟩ (.pointer (some ⟨b, 0, none⟩)) := by
 obtain ⟨j, hj, hjs⟩ := Option.map_eq_some_iff.1 sizeB
 go_enter Tryd.func75, Tryd.ntmps75
 go_wp2
 rw [Lib.run_to_unsafe w ⟨b, 0, none⟩ Tryd.underlying101 Tryd.underlying130 hj (by rw [hjs]; decide) hsh (Nat.zero_lt_succ 1)]
 simp only [Result.andThen]
 rw [Oper.upon_value]
 go_wp2
 rw [run_callFunc_extern Tryd.func82 (by kernel_rfl) (by kernel_rfl) (by kernel_rfl) (e := Extern.AbiNoEscape.same) (by kernel_rfl)]
 rw [Lib.run_noEscape]
 simp only [Result.andThen]
 rw [Oper.upon_value]
 go_wp2
 rw [Lib.run_from_unsafe w ⟨b, 0, none⟩ Tryd.underlying130 Tryd.underlying101 hj hsh liesB]
 simp only [Result.andThen]
 rw [Oper.upon_value]
 go_wp2
 go_end0
 exact ⟨rfl, rfl⟩
theorem copyCheck (B b : Nat) (bs : List Value) (w : World) (h : Lib.IsBuilder 104 5 B b bs w) :
 Calls Tryd.prog 75 #[.pointer (some ⟨b, 0, none⟩)] w fun e w' => e = .returned (.tuple #[]) ∧ (Lib.BuilderAt 104 5 B b (.pointer (some ⟨b, 0, none⟩)) bs w' ∧ Below B w w') := by
 rcases h with h | h
 ·refine (copyCheck_fresh b w h.cell0 h.shape h.frozen0).mono ?_
  rintro e w' ⟨rfl, rfl⟩
  exact ⟨rfl, h.used _, (Below.refl B w).setCell (p := ⟨b, 0, none⟩) h.1 _⟩
 ·refine (copyCheck_used b w h.cell0).mono ?_
  rintro e w' ⟨rfl, rfl⟩
  exact ⟨rfl, h, Below.refl B _⟩
set_option maxHeartbeats 2000000 in
set_option maxRecDepth 100000 in
theorem writeByte (B b : Nat) (bs : List Value) (c : Int) (w : World) (h : Lib.IsBuilder 104 5 B b bs w) (hlen : bs.length + 1 ≤ 140737488355328) (hBw : B ≤ w.heap.size) :
 Calls Tryd.prog 67 #[.pointer (some ⟨b, 0, none⟩), .int .u8 c] w fun e w' => e = .returned .nilIface ∧ (Lib.BuilderAt 104 5 B b (.pointer (some ⟨b, 0, none⟩)) (bs ++ [.int .u8 c]) w' ∧ Below B w w') := by
 obtain ⟨i0, hi, hz0, hz1, hz2⟩ := info_parts infoByte
 go_enter Tryd.func67, Tryd.ntmps67
 go_wp2_with (go_at_call 75; refine (copyCheck B b bs _ h).mono ?_)
 rintro e w1 ⟨rfl, h1, hb1⟩
 obtain ⟨hB, v, hbk, hown, hne⟩ := h1
 have c0 : w1.cell? ⟨b, 0, none⟩ = some (.pointer (some ⟨b, 0, none⟩)) := by rw [Lib.cell_of_heap hbk]; rfl
 have c1 : w1.cell? ⟨b, 1, none⟩ = some v := by rw [Lib.cell_of_heap hbk]; rfl
 go_wp2_with (at_builtin; refine wpList_append_own _ rfl _ _ 102 rfl B 5 i0 (.int .u8 0) 1 1 Tryd.underlying102 hi hz0 hz1 hz2 rfl (by decide) _ _ _ rfl (hown.alloc _) ⟨w1.heap.size, 0, none⟩ 1 1 [.int .u8 c] rfl rfl ?c1 ?c2 ?c3 ?c4 ?c5 ?_)
 case c1 =>
  intro j u hj
  match j, hj with
  | 0, hj => simp at hj; subst hj; simp [Addr.add]
 case c2 => intro u hu; simp at hu; subst hu; rfl
 case c3 => unfold maxLen; omega
 case c4 => omega
 case c5 => have := hb1.size; simp; omega
 intro v' w2 hown' hgrow _
 have hlt : b < w1.heap.size := by
  rcases Nat.lt_or_ge b w1.heap.size with h' | h'
  ·exact h'
  ·simp [Array.getElem?_eq_none h'] at hbk
 have hb2 : w2.heap[b]? = some (.cells #[.pointer (some ⟨b, 0, none⟩), v] 104 (0, 0)) := by
  rw [hgrow.block b (by simp; omega) (fun e => hne e.symm), Lib.alloc_old w1 _ b hlt]
  exact hbk
 have d0 : w2.cell? ⟨b, 0, none⟩ = some (.pointer (some ⟨b, 0, none⟩)) := by rw [Lib.cell_of_heap hb2]; rfl
 have d1 : w2.cell? ⟨b, 1, none⟩ = some v := by rw [Lib.cell_of_heap hb2]; rfl
 have f1 : w2.frozen? ⟨b, 1, none⟩ = false := Lib.frozen_of_heap hb2 1
 obtain ⟨g, cap, rfl⟩ : ∃ g cap, v' = .slice (some ⟨g, 0, none⟩) (bs.length + 1) cap := by
  rcases hown'.2 with ⟨_, h0⟩ | ⟨g, cap, cur, hv, _⟩
  ·omega
  ·exact ⟨g, cap, hv⟩
 go_wp2
 go_ret
 refine ⟨rfl, ?_, ?_⟩
 ·exact Lib.BuilderAt.put (T := 104) (e := 5) hB hb2 (bs' := bs ++ [.int .u8 c]) (by simpa using hown') (by decide)
 ·exact ((hb1.alloc (by have := hb1.size; omega) _).grown hgrow (by have := hb1.size; simp; omega) (fun k hk => (hown.lt k hk).1)).setCell (p := ⟨b, 1, none⟩) hB _
set_option maxHeartbeats 2000000 in
set_option maxRecDepth 100000 in
theorem writeString (B b : Nat) (bs : List Value) (s : ByteArray) (w : World) (h : Lib.IsBuilder 104 5 B b bs w) (hlen : bs.length + s.size ≤ 140737488355328) (hBw : B ≤ w.heap.size) :
 Calls Tryd.prog 66 #[.pointer (some ⟨b, 0, none⟩), .string s] w fun e w' => e = .returned (.tuple #[.int .i64 s.size, .nilIface]) ∧ (Lib.BuilderAt 104 5 B b (.pointer (some ⟨b, 0, none⟩)) (bs ++ Lib.strCells s) w' ∧ Below B w w') := by
 obtain ⟨i0, hi, hz0, hz1, hz2⟩ := info_parts infoByte
 go_enter Tryd.func66, Tryd.ntmps66
 go_wp2_with (go_at_call 75; refine (copyCheck B b bs _ h).mono ?_)
 rintro e w1 ⟨rfl, h1, hb1⟩
 obtain ⟨hB, v, hbk, hown, hne⟩ := h1
 have c0 : w1.cell? ⟨b, 0, none⟩ = some (.pointer (some ⟨b, 0, none⟩)) := by rw [Lib.cell_of_heap hbk]; rfl
 have c1 : w1.cell? ⟨b, 1, none⟩ = some v := by rw [Lib.cell_of_heap hbk]; rfl
 go_wp2_with (at_builtin; refine Lib.wpList_append_own_string _ rfl _ _ 102 9 rfl B 5 i0 Tryd.underlying102 Tryd.underlying9 hi hz0 hz1 hz2 _ _ _ rfl hown s rfl ?c3 ?c4 ?c5 ?_)
 case c3 => unfold maxLen; omega
 case c4 => omega
 case c5 => have := hb1.size; omega
 intro v' w2 hown' hgrow _
 have hlt : b < w1.heap.size := by
  rcases Nat.lt_or_ge b w1.heap.size with h' | h'
  ·exact h'
  ·simp [Array.getElem?_eq_none h'] at hbk
 have hb2 : w2.heap[b]? = some (.cells #[.pointer (some ⟨b, 0, none⟩), v] 104 (0, 0)) := by
  rw [hgrow.block b hlt (fun e => hne e.symm)]
  exact hbk
 have d0 : w2.cell? ⟨b, 0, none⟩ = some (.pointer (some ⟨b, 0, none⟩)) := by rw [Lib.cell_of_heap hb2]; rfl
 have d1 : w2.cell? ⟨b, 1, none⟩ = some v := by rw [Lib.cell_of_heap hb2]; rfl
 have f1 : w2.frozen? ⟨b, 1, none⟩ = false := Lib.frozen_of_heap hb2 1
 obtain ⟨ao, n', cap, rfl⟩ : ∃ ao n' cap, v' = .slice ao n' cap := by
  rcases hown'.2 with ⟨hv, _⟩ | ⟨g, cap, cur, hv, _⟩
  ·exact ⟨_, _, _, hv⟩
  ·exact ⟨_, _, _, hv⟩
 go_wp2
 go_ret2
 refine ⟨rfl, ?_, ?_⟩
 ·exact Lib.BuilderAt.put (T := 104) (e := 5) hB hb2 (bs' := bs ++ Lib.strCells s) (by simpa [Lib.strCells_length] using hown') (by decide)
 ·exact (hb1.grown hgrow (by have := hb1.size; omega) (fun k hk => (hown.lt k hk).1)).setCell (p := ⟨b, 1, none⟩) hB _
end Go.Proofs.YtjfhcijjjadhbaaDoor.K
end
section
namespace Go.Proofs.YtjfhcijjjadhbaaDoor.K
open Go.RowKit Go.Proofs.YtjfhcijjjadhbaaDoorW.PrintWords Go.Proofs.YtjfhcijjjadhbaaDoorW.PrintLast
/-- What the library's own variables hold: as they were laid. -/
structure TheG (w : World) : Prop where
 tab : Lib.TabIs Tryd.prog w "internal/strconv.uint64pow10" .u64 Lib.pow10Tab
 syn : ∃ ev, w.cell? ⟨2, 0, none⟩ = some ev ∧ (ev = .nilIface ∨ ∃ te pe, ev = .iface te pe)
 rng : ∃ ev, w.cell? ⟨3, 0, none⟩ = some ev ∧ (ev = .nilIface ∨ ∃ te pe, ev = .iface te pe)
 mx : ∃ m, w.cell? ⟨1, 0, none⟩ = some (.int .i64 m)
theorem var_lt {w : World} {n : String} {cs : Array Value} {g : Nat} (hg : Tryd.prog.globalNamed n = some g) (h : w.var? Tryd.prog n = some cs) : g < w.heap.size := by
 unfold World.var? at h
 rw [hg, Option.bind_some] at h
 rcases Nat.lt_or_ge g w.heap.size with h' | h'
 ·exact h'
 ·rw [Array.getElem?_eq_none h'] at h; exact absurd h (by simp)
theorem g_tab : Tryd.prog.globalNamed "internal/strconv.uint64pow10" = some 0 := by kernel_rfl
theorem TheG.below {w w' : World} (h : TheG w) (hb : Below w.heap.size w w') : TheG w' := by
 obtain ⟨h1, ⟨e1, h2, h2'⟩, ⟨e2, h3, h3'⟩, m, h4⟩ := h
 exact ⟨var?_below hb g_tab (var_lt g_tab h1) h1, ⟨e1, pw_cell_below hb h2, h2'⟩, ⟨e2, pw_cell_below hb h3, h3'⟩, m, pw_cell_below hb h4⟩
theorem TheG.quiet {w w' : World} (h : TheG w) (hb : Drawn0 w w') : TheG w' := h.below hb.below
def numB (n : Int) : ByteArray := ⟨(Lib.itoa n).toArray⟩
def knot_Num.f (a0 : Int) : Option ByteArray := if -9223372036854775808 ≤ a0 then (if a0 ≤ 9223372036854775807 then some (numB a0) else none) else none
theorem below_grow (w : World) (k : Nat) (os : Array Obj) : Below w.heap.size w (Go.Sort.grow (w.drewN k) os) := by
 have h : ∀ (W : World), Below W.heap.size W (Go.Sort.grow W os) := fun W =>
  ⟨rfl, rfl, rfl, by simp [Go.Sort.grow], fun i hi => by simp only [Go.Sort.grow]; rw [Array.getElem?_append_left hi]⟩
 exact below_then (pbN (Below.refl _ _) k) (by rw [World.heap_drewN]; exact Nat.le_refl _) (h _)
set_option maxHeartbeats 1000000 in
set_option maxRecDepth 100000 in
theorem knot_Num.calls (a0 : Int) (r : ByteArray) (w : World) (hG : TheG w) (h : knot_Num.f a0 = some r) :
 Calls Tryd.prog 40 #[.int .i64 a0] w fun e w' => e = .returned (.string r) ∧ Below w.heap.size w w' := by
 unfold knot_Num.f at h
 split at h
 ·split at h
  ·rename_i h0 h1
   obtain rfl := Option.some.inj h
   go_enter Tryd.func40, Tryd.ntmps40
   go_wp2_with (go_at_call 65; refine (Tryd.strconv_FormatInt_10 a0 h0 h1 _ hG.tab).mono ?_; rintro e w' ⟨rfl, k, os, rfl⟩)
   go_ret
   exact ⟨rfl, below_grow _ _ _⟩
  ·exact absurd h (by simp)
 ·exact absurd h (by simp)
theorem parseUintM_le (M : Nat) : ∀ (l : List UInt8) (acc u : Nat), acc ≤ M → Lib.parseUintM M acc l = .ok u → u ≤ M
 | [], acc, u, h, e => by simp only [Lib.parseUintM] at e; injection e with e; omega
 | c :: r, acc, u, h, e => by
  simp only [Lib.parseUintM] at e
  split at e
  ·split at e
   ·exact absurd e (by simp)
   ·split at e
    ·exact absurd e (by simp)
    ·exact parseUintM_le M r _ u (by omega) e
  ·exact absurd e (by simp)
theorem parseIntB_bound {l : List UInt8} {v : Int} (h : Lib.parseIntB 64 l = .ok v) : -9223372036854775808 ≤ v ∧ v ≤ 9223372036854775807 := by
 cases l with
 | nil => simp [Lib.parseIntB] at h
 | cons c r =>
  simp only [Lib.parseIntB] at h
  cases hu : Lib.parseUintB 64 (if c.toNat = 43 ∨ c.toNat = 45 then r else c :: r)
  case ok u =>
   rw [hu] at h
   simp only [] at h
   split at h
   ·exact absurd h (by simp)
   ·split at h
    ·exact absurd h (by simp)
    ·injection h with h
     split at h <;> omega
  all_goals (rw [hu] at h; exact absurd h (by simp))
theorem bytes_below (w : World) (e : TypeId) (s : ByteArray) : Below w.heap.size w (Lib.bytesWorld w e s) :=
 ⟨rfl, rfl, rfl, by rw [Lib.bytesWorld_size]; omega, fun i hi => Lib.bytesWorld_at_old _ _ _ _ hi⟩
def knot_Int.f (a0 : ByteArray) : Option (Int × Int) :=
 if a0.size ≤ 281474976710656 then some (match Lib.parseIntB 64 a0.data.toList with | .ok v => if numB v = a0 then (v, 0) else (0, 10) | _ => (0, 10)) else none
set_option maxHeartbeats 1000000 in
set_option maxRecDepth 100000 in
theorem knot_Int.calls (a0 : ByteArray) (r1 : Int) (r2 : Int) (w : World) (hG : TheG w) (h : knot_Int.f a0 = some (r1, r2)) :
 Calls Tryd.prog 70 #[.string a0] w fun e w' => e = .returned (.tuple #[.int .i64 r1, .int .i64 r2]) ∧ Below w.heap.size w w' := by
 unfold knot_Int.f at h
 split at h
 case isFalse => exact absurd h (by simp)
 case isTrue hs =>
 cases hp : Lib.parseIntB 64 a0.data.toList
 case ok v =>
  rw [hp] at h
  have hb := parseIntB_bound hp
  obtain ⟨h0, h1⟩ := hb
  by_cases hn : numB v = a0
  ·simp only [hn, if_true, Option.some.injEq, Prod.mk.injEq] at h
   obtain ⟨rfl, rfl⟩ := h
   have hq : ((numB v).toList == a0.toList) = true := by rw [hn]; simp
   have hN : knot_Num.f v = some (numB v) := by unfold knot_Num.f; rw [if_pos h0, if_pos h1]
   have HN := Lib.hid hN
   have HP := Lib.hid hp
   clear hN hp hn h0 h1
   go_enter Tryd.func70, Tryd.ntmps70
   go_wp2_with (first | (go_at_call 77; refine (Tryd.strconv_ParseInt_10_at64_ok a0 (by omega) v HP.out _).mono ?_; rintro e w1 ⟨rfl, hw1⟩; have hb1 : Below w.heap.size w w1 := (by rcases hw1 with rfl | ⟨t, rfl⟩; exact Below.refl _ _; exact bytes_below _ _ _); clear hw1) | (go_at_call 40; refine (knot_Num.calls v (numB v) _ (hG.below hb1) HN.out).mono ?_; rintro e w2 ⟨rfl, hb2⟩))
   go_ret2
   exact ⟨rfl, pbT hb1 hb2⟩
  ·simp only [hn, if_false, Option.some.injEq, Prod.mk.injEq] at h
   obtain ⟨rfl, rfl⟩ := h
   have hq : ((numB v).toList == a0.toList) = false := by
    rw [beq_eq_false_iff_ne]; intro e; exact hn (ByteArray.ext (Array.toList_inj.1 (by rw [← Lib.toList_data, ← Lib.toList_data]; exact e)))
   have hN : knot_Num.f v = some (numB v) := by unfold knot_Num.f; rw [if_pos h0, if_pos h1]
   have HN := Lib.hid hN
   have HP := Lib.hid hp
   clear hN hp hn h0 h1
   go_enter Tryd.func70, Tryd.ntmps70
   go_wp2_with (first | (go_at_call 77; refine (Tryd.strconv_ParseInt_10_at64_ok a0 (by omega) v HP.out _).mono ?_; rintro e w1 ⟨rfl, hw1⟩; have hb1 : Below w.heap.size w w1 := (by rcases hw1 with rfl | ⟨t, rfl⟩; exact Below.refl _ _; exact bytes_below _ _ _); clear hw1) | (go_at_call 40; refine (knot_Num.calls v (numB v) _ (hG.below hb1) HN.out).mono ?_; rintro e w2 ⟨rfl, hb2⟩))
   go_ret2
   exact ⟨rfl, pbT hb1 hb2⟩
 case range =>
  rw [hp] at h
  simp only [Option.some.injEq, Prod.mk.injEq] at h
  obtain ⟨rfl, rfl⟩ := h
  obtain ⟨ev, hv, hev⟩ := hG.rng
  have HE := Lib.hid hev
  clear hev
  have HP := Lib.hid hp
  have HV := Lib.hid hv
  clear hp hv
  go_enter Tryd.func70, Tryd.ntmps70
  go_wp2_with (first | (go_at_call 77; refine (Tryd.strconv_ParseInt_10_at64_range a0 hs HP.out ev _ HV.out HE.out).mono ?_; rintro e w1 ⟨N, rfl, _, _, hb1⟩))
  go_ret2
  exact ⟨rfl, hb1⟩
 all_goals
  rw [hp] at h
  simp only [Option.some.injEq, Prod.mk.injEq] at h
  obtain ⟨rfl, rfl⟩ := h
  obtain ⟨ev, hv, hev⟩ := hG.syn
  have HE := Lib.hid hev
  clear hev
  have HP := Lib.hid hp
  have HV := Lib.hid hv
  clear hp hv
  go_enter Tryd.func70, Tryd.ntmps70
  go_wp2_with (first | (go_at_call 77; refine (Any.strconv_ParseInt_10_at64_syntax Tryd.laysC174 a0 hs HP.out ev _ HV.out HE.out).mono ?_; rintro e w1 ⟨N, rfl, _, _, hb1⟩))
  go_ret2
  exact ⟨rfl, hb1⟩
def strings_Cut.f (a0 a1 : ByteArray) : Option (ByteArray × ByteArray × Bool) :=
 if a0.size < 4294967281 then some (⟨(Lib.cut a0.data.toList a1.data.toList).1.toArray⟩, ⟨(Lib.cut a0.data.toList a1.data.toList).2.1.toArray⟩, (Lib.cut a0.data.toList a1.data.toList).2.2) else none
theorem strings_Cut.calls (a0 a1 : ByteArray) (r1 r2 : ByteArray) (r3 : Bool) (w : World) (hG : TheG w) (h : strings_Cut.f a0 a1 = some (r1, r2, r3)) :
 Calls Tryd.prog 76 #[.string a0, .string a1] w fun e w' => e = .returned (.tuple #[.string r1, .string r2, .bool r3]) ∧ Drawn0 w w' := by
 unfold strings_Cut.f at h
 split at h
 case isFalse => exact absurd h (by simp)
 case isTrue hs =>
 simp only [Option.some.injEq, Prod.mk.injEq] at h
 obtain ⟨rfl, rfl, rfl⟩ := h
 obtain ⟨m, hm⟩ := hG.mx
 exact (Tryd.strings_Cut a0 a1 m w hs hm).mono fun e w' ⟨h1, h2⟩ => ⟨h1, ⟨h2⟩⟩
theorem numB_size (n : Int) : (numB n).size = (Lib.itoa n).length := by simp [numB, ByteArray.size]
def strandL (s : ByteArray) : List UInt8 := Lib.itoa s.size ++ [58] ++ s.data.toList ++ [44]
def tieL (l : List ByteArray) : List UInt8 := (l.map strandL).flatten
def knot_Tie.f (l0 : List ByteArray) : Option ByteArray := if (tieL l0).length ≤ 140737488355328 then some ⟨(tieL l0).toArray⟩ else none
theorem tieL_snoc (l : List ByteArray) (k : Nat) (h : k < l.length) : tieL (l.take (k + 1)) = tieL (l.take k) ++ strandL l[k] := by
 unfold tieL
 rw [List.take_succ_eq_append_getElem h, List.map_append, List.flatten_append]
 simp
theorem tieL_le (l : List ByteArray) (k : Nat) : (tieL (l.take k)).length ≤ (tieL l).length := by
 unfold tieL
 conv => rhs; rw [← List.take_append_drop k l]
 rw [List.map_append, List.flatten_append, List.length_append]
 omega
theorem byteCells_append (a b : List UInt8) : Lib.byteCells (a ++ b) = Lib.byteCells a ++ Lib.byteCells b := by simp [Lib.byteCells]
theorem byteCells_length (a : List UInt8) : (Lib.byteCells a).length = a.length := by simp [Lib.byteCells]
theorem strCells_eq (s : ByteArray) : Lib.strCells s = Lib.byteCells s.data.toList := rfl
theorem isBuilder_step {T e : TypeId} {B b : Nat} {bs : List Value} {w w' : World} (h : Lib.IsBuilder T e B b bs w) (hb : Below w.heap.size w w') : Lib.IsBuilder T e B b bs w' := by
 have aux : ∀ p, Lib.BuilderAt T e B b p bs w → Lib.BuilderAt T e B b p bs w' := by
  intro p hp
  have hlt := hp.lt
  obtain ⟨h1, v, h2, h3, h4⟩ := hp
  exact ⟨h1, v, (hb.block b hlt).trans h2, pw_own_below h3 hb, h4⟩
 rcases h with h | h
 ·exact .inl (aux _ h)
 ·exact .inr (aux _ h)
theorem isBuilder_used {T e : TypeId} {B b : Nat} {bs : List Value} {w : World} (h : Lib.BuilderAt T e B b (.pointer (some ⟨b, 0, none⟩)) bs w) : Lib.IsBuilder T e B b bs w := .inr h
theorem isBuilder_lt {T e : TypeId} {B b : Nat} {bs : List Value} {w : World} (h : Lib.IsBuilder T e B b bs w) : b < w.heap.size := by
 rcases h with h | h <;> exact h.lt
set_option maxHeartbeats 2000000 in
set_option maxRecDepth 100000 in
theorem knot_Tie.calls (A0 : Option Addr) (c0 : Nat) (l0 : List ByteArray) (r : ByteArray) (w : World) (hG : TheG w) (hr0 : Kd.C Kd.string w A0 l0.length l0) (hc0 : l0.length ≤ c0) (h : knot_Tie.f l0 = some r) :
 Calls Tryd.prog 41 #[.slice A0 l0.length c0] w fun e w' => e = .returned (.string r) ∧ Below w.heap.size w w' := by
 unfold knot_Tie.f at h
 split at h
 case isFalse => exact absurd h (by simp)
 case isTrue hs =>
 obtain rfl := Option.some.inj h
 have hmax : l0.length ≤ 9223372036854775807 := hr0.2.1
 have HC := Lib.hid hr0
 have HS := Lib.hid hs
 clear hs hr0
 go_enter Tryd.func41, Tryd.ntmps41
 go_wp2
 go_loopw [8] (fun i wr => ∃ k : Nat, k ≤ l0.length ∧ i = .int .i64 k ∧ Hid (Lib.IsBuilder 104 5 w.heap.size w.heap.size (Lib.byteCells (tieL (l0.take k))) wr) ∧ Hid (Below w.heap.size w wr) ∧ Hid (w.heap.size < wr.heap.size)) (fun i _ => l0.length - (intOf i).toNat)
 case atStart => exact ⟨0, Nat.zero_le _, rfl, Lib.hid (Or.inl ⟨Nat.le_refl _, .slice none 0 0, Array.getElem?_push_size, own_nil _ _ _ _, by exact fun h => nomatch h⟩), Lib.hid (pbA (Below.refl _ _) _), Lib.hid (by simp)⟩
 case round =>
  obtain ⟨k, hk, rfl, HB, HW, HL⟩ := hrel
  by_cases hlt : k < l0.length
  ·obtain ⟨ad, ead, hcell⟩ := Kd.at_string (Kd.C_below HC.out HW.out) (k : Int) (by omega) (by omega)
   subst ead
   have hrd : rdOf ByteArray.empty l0 (k : Int) = l0[k] := by simp [rdOf, hlt]
   rw [hrd] at hcell
   simp only [Int.toNat_natCast] at hcell
   have hle := tieL_le l0 (k + 1)
   have hsn := tieL_snoc l0 k hlt
   have hln : (tieL (l0.take k)).length + (Lib.itoa (l0[k].size : Int)).length + 1 + l0[k].size + 1 ≤ 140737488355328 := by
    have := HS.out
    rw [hsn] at hle
    simp only [strandL, List.length_append, List.length_cons, List.length_nil, ← Lib.size_eq] at hle
    omega
   have hN : knot_Num.f (l0[k].size : Int) = some (numB (l0[k].size : Int)) := by unfold knot_Num.f; rw [if_pos (by omega), if_pos (by omega)]
   have HN := Lib.hid hN
   have HLN := Lib.hid hln
   have HSN := Lib.hid hsn
   have HGr := Lib.hid (hG.below HW.out)
   have hz := numB_size (l0[k].size : Int)
   have HC1 := Lib.hid (show (Lib.byteCells (tieL (l0.take k))).length + (numB (l0[k].size : Int)).size ≤ 140737488355328 by simp only [byteCells_length, hz]; omega)
   have HC2 := Lib.hid (show (Lib.byteCells (tieL (l0.take k)) ++ Lib.strCells (numB (l0[k].size : Int))).length + 1 ≤ 140737488355328 by simp only [byteCells_length, strCells_eq, ← Lib.size_eq, List.length_append, hz]; omega)
   have HC3 := Lib.hid (show (Lib.byteCells (tieL (l0.take k)) ++ Lib.strCells (numB (l0[k].size : Int)) ++ [Value.int .u8 58]).length + l0[k].size ≤ 140737488355328 by simp only [byteCells_length, strCells_eq, ← Lib.size_eq, List.length_append, List.length_cons, List.length_nil, hz]; omega)
   have HC4 := Lib.hid (show (Lib.byteCells (tieL (l0.take k)) ++ Lib.strCells (numB (l0[k].size : Int)) ++ [Value.int .u8 58] ++ Lib.strCells l0[k]).length + 1 ≤ 140737488355328 by simp only [byteCells_length, strCells_eq, ← Lib.size_eq, List.length_append, List.length_cons, List.length_nil, hz]; omega)
   clear hN hln hsn hle hrd hz
   go_wp2_with (first | (go_at_call 40; refine (knot_Num.calls _ _ _ HGr.out HN.out).mono ?_; rintro e w1 ⟨rfl, hb1⟩; have HB1 := Lib.hid (isBuilder_step HB.out hb1); have HW1 := Lib.hid (pbT HW.out hb1); clear hb1) | fail)
   go_wp2_with (first | (go_at_call 66; refine (writeString _ _ _ _ _ HB1.out HC1.out HW1.out.size).mono ?_; rintro e w2 ⟨rfl, hB, hb⟩; have HB2 := Lib.hid (isBuilder_used hB); have HW2 := Lib.hid (HW1.out.trans hb); clear hb hB) | fail)
   go_wp2_with (first | (go_at_call 67; refine (writeByte _ _ _ _ _ HB2.out HC2.out HW2.out.size).mono ?_; rintro e w3 ⟨rfl, hB, hb⟩; have HB3 := Lib.hid (isBuilder_used hB); have HW3 := Lib.hid (HW2.out.trans hb); clear hb hB) | fail)
   go_wp2_with (first | (go_at_call 66; refine (writeString _ _ _ _ _ HB3.out HC3.out HW3.out.size).mono ?_; rintro e w4 ⟨rfl, hB, hb⟩; have HB4 := Lib.hid (isBuilder_used hB); have HW4 := Lib.hid (HW3.out.trans hb); clear hb hB) | fail)
   go_wp2_with (first | (go_at_call 67; refine (writeByte _ _ _ _ _ HB4.out HC4.out HW4.out.size).mono ?_; rintro e w5 ⟨rfl, hB, hb⟩; have HB5 := Lib.hid (isBuilder_used hB); have HW5 := Lib.hid (HW4.out.trans hb); clear hb hB) | fail)
   go_roundw
   case rel =>
    refine ⟨k + 1, by omega, by go_num, ?_, HW5, Lib.hid (isBuilder_lt HB5.out)⟩
    have h := HB5.out
    rw [HSN.out]
    refine Lib.hid ?_
    simpa [byteCells_append, strandL, numB, strCells_eq, Lib.byteCells] using h
   case measure => simp [intOf]; omega
  ·obtain rfl : k = l0.length := by omega
   rw [List.take_length] at HB
   go_wp2_with (first | (go_at_call 68; refine (Tryd.Builder_String_any _ _ _ _ HB.out HW.out.size).mono ?_; rintro e w1 ⟨rfl, hb1⟩; have HW1 := Lib.hid (HW.out.trans hb1); clear hb1) | fail)
   go_ret
   exact ⟨rfl, HW1.out⟩
end Go.Proofs.YtjfhcijjjadhbaaDoor.K
end
section
namespace Go.Proofs.YtjfhcijjjadhbaaDoor.K
open Go.RowKit Go.Proofs.YtjfhcijjjadhbaaDoorW.PrintWords
theorem own : ownKnob Tryd.prog.godebug = none := by kernel_rfl
theorem laidOut : laidOutB Tryd.prog = true := by kernel_rfl
def laidHere : List (String × DataW Unit) := [("math/bits.deBruijn32tab", Rows.laid_math_bits_deBruijn32tab), ("math/bits.deBruijn64tab", Rows.laid_math_bits_deBruijn64tab), ("internal/strconv.uint64pow10", Rows.laid_internal_strconv_uint64pow10), ("strconv.ErrRange", Rows.laid_strconv_ErrRange), ("strconv.ErrSyntax", Rows.laid_strconv_ErrSyntax)]
theorem laid_iface {P : Program} {n nm : String} {d : DataW Unit} {r : List (String × DataW Unit)} {W : World} {g : Nat} {ti : TypeId} {ms : Array (String × TypeId)}
 (h : laidMet P ((n, .iface nm d) :: r) W) (hg : P.globalNamed n = some g) (ht : (P.globals[g]?).map (·.type) = some ti) (hi : P.underlying ti = some (.interface ms)) :
 ∃ ev, W.cell? ⟨g, 0, none⟩ = some ev ∧ (ev = .nilIface ∨ ∃ te pe, ev = .iface te pe) := by
 obtain ⟨ps, ⟨g0, t0, cs0, f0, p0, q0, hg0, ht0, hv0, hd0, _, e0⟩, _, hrows⟩ := h
 obtain rfl := Option.some.inj (hg.symm.trans hg0)
 obtain rfl := Option.some.inj (ht.symm.trans ht0)
 have hc := World.var?_cell hg0 hv0 0
 cases f0 with
 | zero => simp [DataW.trod] at hd0
 | succ f =>
  obtain ⟨l⟩ := cs0
  cases l with
  | nil => simp [DataW.trod, hi] at hd0
  | cons v l =>
   cases l with
   | cons _ _ => simp [DataW.trod, hi] at hd0
   | nil =>
    have hc' : W.cell? ⟨g, 0, none⟩ = some v := by rw [hc]; rfl
    refine ⟨v, hc', ?_⟩
    cases v <;> first | exact .inl rfl | exact .inr ⟨_, _, rfl⟩ | (simp [DataW.trod, hi] at hd0)
theorem gType : (Tryd.prog.globals[0]?).map (·.type) = some 134 := by kernel_rfl
theorem cellsTab : Tryd.prog.cellsOf 134 = 20 := by kernel_rfl
theorem cellsU64 : Tryd.prog.cellsOf 125 = 1 := by kernel_rfl
theorem theG_of {W : World} (hL : laidMetH Tryd.prog laidHere W) (hsh : W.ShapedOpen Tryd.prog) : TheG W := by
 have h1 : laidMetH Tryd.prog [("internal/strconv.uint64pow10", Rows.laid_internal_strconv_uint64pow10)] W := by
  have := hL.filter (fun x => x.1 == "internal/strconv.uint64pow10")
  rw [show laidHere.filter (fun x => x.1 == "internal/strconv.uint64pow10") = [("internal/strconv.uint64pow10", Rows.laid_internal_strconv_uint64pow10)] from by rfl] at this
  exact this
 have h2 : laidMet Tryd.prog [("internal/strconv.uint64pow10", Lib.tabData .u64 Lib.pow10Tab)] W := by
  rw [MakeChecks.laidMetH_plain _ _ _ (by kernel_rfl)] at h1
  exact h1
 refine ⟨Lib.tabIs_of_head (rest := []) g_tab gType Tryd.underlying134 Tryd.underlying125 cellsU64 cellsTab h2, ?_, ?_, ?_⟩
 ·have h1 := hL.filter (fun x => x.1 == "strconv.ErrSyntax")
  rw [show laidHere.filter (fun x => x.1 == "strconv.ErrSyntax") = [("strconv.ErrSyntax", Rows.laid_strconv_ErrSyntax)] from by rfl, MakeChecks.laidMetH_plain _ _ _ (by kernel_rfl)] at h1
  exact laid_iface (g := 2) (ti := 106) h1 (by kernel_rfl) (by kernel_rfl) Tryd.underlying106
 ·have h1 := hL.filter (fun x => x.1 == "strconv.ErrRange")
  rw [show laidHere.filter (fun x => x.1 == "strconv.ErrRange") = [("strconv.ErrRange", Rows.laid_strconv_ErrRange)] from by rfl, MakeChecks.laidMetH_plain _ _ _ (by kernel_rfl)] at h1
  exact laid_iface (g := 3) (ti := 106) h1 (by kernel_rfl) (by kernel_rfl) Tryd.underlying106
 ·exact cell_of_shapedOpen_int (zero := #[.int .i64 0]) (t := 3) hsh (of_decide_eq_true (by kernel_rfl)) (by kernel_rfl) rfl (by kernel_rfl) (by kernel_rfl) Tryd.underlying3
/-- The heap that the variables' own initialisers leave: a start that fits. -/
theorem door_met (os : Os) (args : Array Value) : laidMetH Tryd.prog laidHere ((World.doorLaid Tryd.prog 62 os).forCall (fun _ _ => 0) ⟨#[], args, []⟩).memory :=
 laidMetH_of_parts3 (fuel := 8) (laidMet_of_run' 8 (by kernel_rfl) (by kernel_rfl)) (by kernel_rfl) (by kernel_rfl)
end Go.Proofs.YtjfhcijjjadhbaaDoor.K
end
section
namespace Go.Proofs.YtjfhcijjjadhbaaDoor.O
open Go Go.RowKit Go.Proofs.YtjfhcijjjadhbaaDoorW.PrintWords
/-- What is read as data of type t has cells of kind d, and is well formed and within the reach (ok). -/
def Opn {α : Type} (P : Program) (t : TypeId) (d : Kd α) (ok : α → Prop) : Prop :=
 ∀ (H : Type) (enc : TypeId × Value → H) (w : World) (base : Nat) (sp : Nat → Bool) (held : Bool) (fuel : Nat) (cs : List Value) (y : DataW H) (ps : List MemPlace),
  DataW.trod enc P w base sp held fuel t cs = some (y, ps) → (∀ n ∈ DataW.weights P t y, n ≤ reachBytes) → ∃ x, d.K w x cs ∧ ok x
variable {P : Program} {t : TypeId}
theorem Opn.bool (hu : P.underlying t = some .bool) : Opn P t Kd.bool (fun _ => True) := by
 intro H enc w base sp held fuel cs y ps h _
 cases fuel with
 | zero => simp [DataW.trod] at h
 | succ f =>
  unfold DataW.trod at h
  rw [hu] at h
  cases cs with
  | nil => simp at h
  | cons v l =>
   cases l with
   | cons _ _ => cases v <;> simp at h
   | nil => cases v <;> first | exact ⟨_, rfl, trivial⟩ | (simp at h)
theorem Opn.int {k : IntKind} (hu : P.underlying t = some (.int k)) : Opn P t (Kd.int k) (fun n => (Lit.int k n).wf = true) := by
 intro H enc w base sp held fuel cs y ps h _
 cases fuel with
 | zero => simp [DataW.trod] at h
 | succ f =>
  unfold DataW.trod at h
  rw [hu] at h
  cases cs with
  | nil => simp at h
  | cons v l =>
   cases l with
   | cons _ _ => cases v <;> simp at h
   | nil =>
    cases v
    case int k' n =>
     simp only at h
     split at h
     ·rename_i hc
      obtain ⟨rfl, hw⟩ := hc
      exact ⟨n, rfl, hw⟩
     ·exact absurd h (by simp)
    all_goals simp at h
theorem Opn.string (hu : P.underlying t = some .string) : Opn P t Kd.string (fun s => s.size ≤ reachBytes) := by
 intro H enc w base sp held fuel cs y ps h hw
 cases fuel with
 | zero => simp [DataW.trod] at h
 | succ f =>
  unfold DataW.trod at h
  rw [hu] at h
  cases cs with
  | nil => simp at h
  | cons v l =>
   cases l with
   | cons _ _ => cases v <;> simp at h
   | nil =>
    cases v
    case string s =>
     simp only at h
     split at h
     ·simp only [Option.some.injEq, Prod.mk.injEq] at h
      obtain ⟨rfl, _⟩ := h
      refine ⟨s, rfl, ?_⟩
      have := hw s.data.toList.length (by simp [DataW.weights])
      rw [← Lib.size_eq] at this
      exact this
     ·exact absurd h (by simp)
    all_goals simp at h
theorem weightsAll_mem {H : Type} {P : Program} {e : TypeId} : ∀ {l : List (DataW H)} {d : DataW H}, d ∈ l → ∀ n ∈ DataW.weights P e d, n ∈ DataW.weightsAll P e l
 | a :: l, d, hd, n, hn => by
  simp only [DataW.weightsAll, List.mem_append]
  rcases List.mem_cons.1 hd with rfl | hd
  ·exact .inl hn
  ·exact .inr (weightsAll_mem hd n hn)
theorem mapM_some {α β : Type} {f : α → Option β} : ∀ {l : List α} {r : List β}, l.mapM f = some r → r.length = l.length ∧ ∀ i (hi : i < l.length), ∃ b, r[i]? = some b ∧ f l[i] = some b
 | [], r, h => by simp at h; subst h; exact ⟨rfl, fun i hi => by simp at hi⟩
 | a :: l, r, h => by
  simp only [List.mapM_cons, Option.pure_def, Option.bind_eq_bind, Option.bind_eq_some_iff, Option.some.injEq] at h
  obtain ⟨b, hb, r', hr, rfl⟩ := h
  obtain ⟨h1, h2⟩ := mapM_some hr
  refine ⟨by simp [h1], fun i hi => ?_⟩
  cases i with
  | zero => exact ⟨b, rfl, hb⟩
  | succ i => exact h2 i (by simpa using hi)
theorem choose_list {α : Type} (n : Nat) (Q : Nat → α → Prop) (h : ∀ i, i < n → ∃ x, Q i x) : ∃ xs : List α, xs.length = n ∧ ∀ i x, xs[i]? = some x → Q i x := by
 induction n with
 | zero => exact ⟨[], rfl, fun i x hx => by simp at hx⟩
 | succ n ih =>
  obtain ⟨xs, h1, h2⟩ := ih (fun i hi => h i (by omega))
  obtain ⟨x, hx⟩ := h n (by omega)
  refine ⟨xs ++ [x], by simp [h1], fun i y hy => ?_⟩
  rcases Nat.lt_or_ge i n with hi | hi
  ·rw [List.getElem?_append_left (by omega)] at hy; exact h2 i y hy
  ·rw [List.getElem?_append_right (by omega)] at hy
   have : i - xs.length = 0 := by
    rcases Nat.eq_zero_or_pos (i - xs.length) with h0 | h0
    ·exact h0
    ·rw [List.getElem?_eq_none (by simp; omega)] at hy; simp at hy
   rw [this] at hy
   simp at hy
   subst hy
   rw [show i = n by omega]; exact hx
theorem add_add_ (a : Addr) (i j : Nat) : (a.add i).add j = a.add (i + j) := by
 unfold Addr.add
 by_cases hi : i = 0 <;> by_cases hj : j = 0 <;> simp [hi, hj, Nat.add_assoc]
theorem Opn.slice {α : Type} {e : TypeId} {d : Kd α} {ok : α → Prop} {B : Nat} (hu : P.underlying t = some (.slice e)) (hc : P.cellsOf e = d.sz) (hB : P.bytesOf e = B) (ho : Opn P e d ok) :
 Opn P t (Kd.slice e d) (fun xs => xs.length * B ≤ reachBytes ∧ xs.length ≤ maxLen ∧ ∀ x ∈ xs, ok x) := by
 intro H enc w base sp held fuel cs y ps h hw
 cases fuel with
 | zero => simp [DataW.trod] at h
 | succ f =>
  unfold DataW.trod at h
  rw [hu] at h
  cases cs with
  | nil => simp at h
  | cons v l =>
   cases l with
   | cons _ _ => cases v <;> simp at h
   | nil =>
    cases v
    case slice A n c =>
     cases A with
     | none =>
      have hz : n = 0 ∧ c = 0 := by
       cases n <;> cases c <;> simp at h ⊢
      obtain ⟨rfl, rfl⟩ := hz
      exact ⟨[], ⟨none, 0, rfl, Nat.le_refl _, Kd.C_nil _ _⟩, by simp [reachBytes], by simp, by simp⟩
     | some a =>
      simp only at h
      split at h
      ·rename_i hcnd
       obtain ⟨_, hle, hmx⟩ := hcnd
       rw [Option.bind_eq_some_iff] at h
       obtain ⟨elems, he, h⟩ := h
       rw [Option.map_eq_some_iff] at h
       obtain ⟨rest, hr, h⟩ := h
       simp only [Prod.mk.injEq] at h
       obtain ⟨rfl, _⟩ := h
       obtain ⟨hl, hi⟩ := mapM_some he
       rw [List.length_range] at hl
       have hwt : ∀ (i : Nat) (b : DataW H × List MemPlace), elems[i]? = some b → ∀ m ∈ DataW.weights P e b.1, m ≤ reachBytes := by
        intro i b hb m hm
        refine hw m ?_
        simp only [DataW.weights, hu, List.mem_cons, List.mem_append]
        exact .inr (.inl (weightsAll_mem (List.mem_map.2 ⟨b, List.mem_of_getElem? hb, rfl⟩) m hm))
       obtain ⟨xs, hxl, hxs⟩ := choose_list n (fun i x => (∃ cs, (w.cells? base (a.add (i * P.cellsOf e)) (P.cellsOf e)) = some cs ∧ d.K w x cs) ∧ ok x) (by
        intro i hin
        obtain ⟨b, hb, hf⟩ := hi i (by rw [List.length_range]; exact hin)
        rw [List.getElem_range, Option.bind_eq_some_iff] at hf
        obtain ⟨cs, h1, h2⟩ := hf
        obtain ⟨x, hx, hok⟩ := ho H enc w base sp held f cs b.1 b.2 h2 (hwt i b hb)
        exact ⟨x, ⟨cs, h1, hx⟩, hok⟩)
       subst hxl
       refine ⟨xs, ⟨some a, c, rfl, hle, rfl, ?_, ?_⟩, ?_, ?_, ?_⟩
       ·unfold maxLen at hmx; omega
       ·intro hpos
        refine ⟨a, rfl, fun j p hp => ?_⟩
        obtain ⟨⟨cs, h1, h2⟩, _⟩ := hxs j p hp
        refine ⟨cs, d.K_len h2, h2, fun i u hu2 => ?_⟩
        rw [hc] at h1
        obtain ⟨_, _, hcell⟩ := World.cells?_some h1
        have hlt := (List.getElem?_eq_some_iff.1 hu2).1
        rw [d.K_len h2] at hlt
        rw [← add_add_, hcell i hlt]
        exact hu2
       ·have := hw ((elems.length + rest.length) * P.bytesOf e) (by simp [DataW.weights, hu])
        rw [hB, hl] at this
        exact Nat.le_trans (Nat.mul_le_mul_right _ (by omega)) this
       ·omega
       ·intro x hx
        obtain ⟨i, hi2⟩ := List.getElem?_of_mem hx
        exact (hxs i x hi2).2
      ·exact absurd h (by simp)
    all_goals simp at h
def OpnF {α : Type} (P : Program) (d : Kd α) (ok : α → Prop) (fs : List Field) (off : Nat) : Prop :=
 ∀ (H : Type) (enc : TypeId × Value → H) (w : World) (base : Nat) (sp : Nat → Bool) (held : Bool) (fuel : Nat) (cs : List Value) (ys : List (DataW H × List MemPlace)),
  (fs.mapM fun f => DataW.trod enc P w base sp held fuel f.type ((cs.drop f.offset).take (P.cellsOf f.type))) = some ys → (∀ n ∈ DataW.weightsEach P (fs.map (·.type)) (ys.map (·.1)), n ≤ reachBytes) → ∃ x, d.K w x ((cs.drop off).take d.sz) ∧ ok x
theorem OpnF.one {α : Type} {d : Kd α} {ok : α → Prop} {f : Field} {off : Nat} (ho : f.offset = off) (hs : P.cellsOf f.type = d.sz) (h : Opn P f.type d ok) : OpnF P d ok [f] off := by
 intro H enc w base sp held fuel cs ys hm hw
 subst ho
 cases hy : DataW.trod enc P w base sp held fuel f.type ((cs.drop f.offset).take (P.cellsOf f.type)) with
 | none => simp [hy] at hm
 | some y =>
  simp [hy] at hm
  subst hm
  rw [hs] at hy
  exact h H enc w base sp held fuel _ y.1 y.2 hy (fun n hn => hw n (by simp [DataW.weightsEach]; exact hn))
theorem OpnF.cons {α β : Type} {d : Kd α} {d2 : Kd β} {ok : α → Prop} {ok2 : β → Prop} {f : Field} {fs : List Field} {off : Nat} (ho : f.offset = off) (hs : P.cellsOf f.type = d.sz) (h : Opn P f.type d ok) (h2 : OpnF P d2 ok2 fs (off + d.sz)) :
 OpnF P (Kd.pair d d2) (fun x => ok x.1 ∧ ok2 x.2) (f :: fs) off := by
 intro H enc w base sp held fuel cs ys hm hw
 subst ho
 cases hy : DataW.trod enc P w base sp held fuel f.type ((cs.drop f.offset).take (P.cellsOf f.type)) with
 | none => simp [hy] at hm
 | some y =>
  cases hz : (fs.mapM fun f => DataW.trod enc P w base sp held fuel f.type ((cs.drop f.offset).take (P.cellsOf f.type))) with
  | none => simp [hy, hz] at hm
  | some zs =>
   simp [hy, hz] at hm
   subst hm
   rw [hs] at hy
   obtain ⟨x, hx, hok⟩ := h H enc w base sp held fuel _ y.1 y.2 hy (fun n hn => hw n (by simp [DataW.weightsEach]; exact .inl hn))
   obtain ⟨x2, hx2, hok2⟩ := h2 H enc w base sp held fuel cs zs hz (fun n hn => hw n (by simp [DataW.weightsEach]; exact .inr (by simpa using hn)))
   refine ⟨(x, x2), ⟨_, _, ?_, hx, hx2⟩, hok, hok2⟩
   show (cs.drop f.offset).take (d.sz + d2.sz) = _
   rw [List.take_add, List.drop_drop]
theorem Opn.struct {α : Type} {d : Kd α} {ok : α → Prop} {fs : Array Field} (hu : P.underlying t = some (.struct fs)) (hs : P.cellsOf t = d.sz) (h : OpnF P d ok fs.toList 0) : Opn P t d ok := by
 intro H enc w base sp held fuel cs y ps hy hw
 cases fuel with
 | zero => simp [DataW.trod] at hy
 | succ f =>
  unfold DataW.trod at hy
  rw [hu] at hy
  simp only at hy
  split at hy
  ·rename_i hl
   rw [Option.map_eq_some_iff] at hy
   obtain ⟨ys, hm, he⟩ := hy
   simp only [Prod.mk.injEq] at he
   obtain ⟨rfl, _⟩ := he
   obtain ⟨x, hx, hok⟩ := h H enc w base sp held f cs ys hm (fun n hn => hw n (by simp only [DataW.weights, hu]; exact hn))
   rw [List.drop_zero, List.take_of_length_le (by omega)] at hx
   exact ⟨x, hx, hok⟩
  ·cases hy
theorem Opn.iso {α β : Type} {d : Kd α} {ok : α → Prop} {f : β → α} (g : α → β) (hg : ∀ x, f (g x) = x) (h : Opn P t d ok) : Opn P t (Kd.iso d f) (fun x => ok (f x)) := by
 intro H enc w base sp held fuel cs y ps hy hw
 obtain ⟨x, hx, hok⟩ := h H enc w base sp held fuel cs y ps hy hw
 exact ⟨g x, by show d.K w (f (g x)) cs; rw [hg]; exact hx, by simp only; rw [hg]; exact hok⟩
theorem Opn.imp {α : Type} {d : Kd α} {ok ok2 : α → Prop} (h : Opn P t d ok) (hi : ∀ x, ok x → ok2 x) : Opn P t d ok2 := by
 intro H enc w base sp held fuel cs y ps hy hw
 obtain ⟨x, hx, hok⟩ := h H enc w base sp held fuel cs y ps hy hw
 exact ⟨x, hx, hi x hok⟩
end Go.Proofs.YtjfhcijjjadhbaaDoor.O
end
section
namespace Go.Proofs.YtjfhcijjjadhbaaDoor.K
open Go
theorem less_total : ∀ (a b : List UInt8), (Op.bytesLess a b || a == b) = !Op.bytesLess b a
 | [], [] => rfl
 | [], _ :: _ => rfl
 | _ :: _, [] => rfl
 | x :: a, y :: b => by
  simp only [Op.bytesLess]
  have ih := less_total a b
  by_cases h1 : x < y
  ·have h2 : ¬ y < x := fun h => absurd (UInt8.lt_trans h1 h) (UInt8.lt_irrefl x)
   have h3 : (y == x) = false := by rw [beq_eq_false_iff_ne]; intro e; rw [e] at h1; exact absurd h1 (UInt8.lt_irrefl x)
   simp [h1, h2, h3]
  ·by_cases h2 : y < x
   ·have h3 : (x == y) = false := by rw [beq_eq_false_iff_ne]; intro e; rw [e] at h2; exact absurd h2 (UInt8.lt_irrefl y)
    have h4 : (x :: a == y :: b) = false := by rw [List.cons_beq_cons, h3]; rfl
    simp [h1, h2, h3, h4]
   ·have h3 : x = y := UInt8.le_antisymm (UInt8.not_lt.1 h2) (UInt8.not_lt.1 h1)
    subst h3
    rw [List.cons_beq_cons]
    simp only [beq_self_eq_true, Bool.true_and, decide_eq_false h1, Bool.false_or]
    exact ih
@[go_sem] theorem binOp_string_leq_ (t : TypeId) (a b : ByteArray) : binOp .leq t (.string a) (.string b) = pure (.bool (!Op.bytesLess b.toList a.toList)) := by
 rw [← less_total]; simp [binOp, Op.stringOp]
@[go_sem] theorem binOp_string_gtr_ (t : TypeId) (a b : ByteArray) : binOp .gtr t (.string a) (.string b) = pure (.bool (Op.bytesLess b.toList a.toList)) := by
 rw [← Bool.not_not (Op.bytesLess b.toList a.toList), ← less_total]; simp [binOp, Op.stringOp]
@[go_sem] theorem binOp_string_geq_ (t : TypeId) (a b : ByteArray) : binOp .geq t (.string a) (.string b) = pure (.bool (!Op.bytesLess a.toList b.toList)) := by simp [binOp, Op.stringOp]
end Go.Proofs.YtjfhcijjjadhbaaDoor.K
end
section
namespace Go.Proofs.YtjfhcijjjadhbaaDoor.P
open Go.RowKit Go.Proofs.YtjfhcijjjadhbaaDoor.K Go.Proofs.YtjfhcijjjadhbaaDoorW.PrintWords Go.Proofs.YtjfhcijjjadhbaaDoorW.PrintLast Go.Proofs.YtjfhcijjjadhbaaDoorW.PrintMore
attribute [local go_sem] max2_int min2_int max_two min_two max_three min_three max_four min_four   -- for this text's walks alone
def errW : Option Int → Value
 | none => .nilIface
 | some c => .iface 0 (.int .i64 c)
theorem errW_none : errW none = .nilIface := rfl
theorem errW_some (c : Int) : errW (some c) = .iface 0 (.int .i64 c) := rfl
theorem info2 : (Tryd.prog.info? 2).map (fun i => (i.zero, i.size, i.bytes)) = some (some (.int .i64 0), 1, 8) := by kernel_rfl
theorem info3 : (Tryd.prog.info? 3).map (fun i => (i.zero, i.size, i.bytes)) = some (some (.int .i64 0), 1, 8) := by kernel_rfl
theorem info9 : (Tryd.prog.info? 9).map (fun i => (i.zero, i.size, i.bytes)) = some (some (.string ⟨#[]⟩), 1, 16) := by kernel_rfl
theorem info60 : (Tryd.prog.info? 60).map (fun i => (i.zero, i.size, i.bytes)) = some (some (.agg #[(.int .i64 0), (.int .i64 0)]), 2, 16) := by kernel_rfl
structure S60 where
 f0 : Int
 f1 : Int
def z60 : S60 := ⟨(0 : Int), (0 : Int)⟩
def k60 : Kd S60 := Kd.iso (Kd.pair (Kd.int .i64) (Kd.int .i64)) (fun x : S60 => (x.f0, x.f1))
theorem k60_heap : Kd.Heap k60 := Kd.heap_iso _ (Kd.heap_pair (Kd.heap_int .i64) (Kd.heap_int .i64))
theorem k60_open {w : World} {x : S60} {cs : List Value} (h : k60.K w x cs) : cs = [.int .i64 x.f0, .int .i64 x.f1] := by
 obtain ⟨_, _, rfl, rfl, rfl⟩ := h
 exact rfl
theorem k60_openM {w : World} {base : Nat} {ok : Nat → Prop} {x : S60} {cs : List Value} (h : k60.M w base ok x cs) : cs = [.int .i64 x.f0, .int .i64 x.f1] := by
 obtain ⟨_, _, rfl, rfl, rfl⟩ := h
 exact rfl
theorem k60_mk (w : World) (x : S60)  : k60.K w x [.int .i64 x.f0, .int .i64 x.f1] := ⟨[.int .i64 x.f0], [.int .i64 x.f1], rfl, rfl, rfl⟩
theorem k60_mkM (w : World) (base : Nat) (ok : Nat → Prop) (x : S60)  : k60.M w base ok x [.int .i64 x.f0, .int .i64 x.f1] := ⟨[.int .i64 x.f0], [.int .i64 x.f1], rfl, rfl, rfl⟩
theorem k60_mkF (W : World) (ok : Nat → Prop) (x : S60) : Kd.FK k60 W ok x [.int .i64 x.f0, .int .i64 x.f1] := fun W2 _ => k60_mk W2 x
def rd_T60 (xs : List S60) (i : Int) : S60 := xs.getD i.toNat z60
theorem at_T60 {w : World} {A : Option Addr} {n : Nat} {xs : List S60} (h : Kd.C k60 w A n xs) (i : Int) (h0 : 0 ≤ i) (h1 : i < n) : ∃ ad , A = some ad ∧ w.cell? (ad.add (i.toNat * 2)) = some (.int .i64 (rd_T60 xs i).f0) ∧ w.cell? ⟨(ad.add (i.toNat * 2)).block, (ad.add (i.toNat * 2)).off + 1, none⟩ = some (.int .i64 (rd_T60 xs i).f1) := by
 obtain ⟨ad, c, e, _, hK, hc0⟩ := Kd.C_get h z60 i h0 h1
 have hc : ∀ j u, c[j]? = some u → w.cell? (ad.add (i.toNat * 2 + j)) = some u := hc0
 obtain rfl := k60_open hK
 exact ⟨ad, e, hc 0 _ rfl, by rw [← add_field _ _ 1 (by omega)]; exact hc 1 _ rfl⟩
structure S58 where
 f0 : Int
 f1 : Int
 f2 : Int
 f3 : ByteArray
def z58 : S58 := ⟨(0 : Int), (0 : Int), (0 : Int), (⟨#[]⟩ : ByteArray)⟩
def k58 : Kd S58 := Kd.iso (Kd.pair (Kd.int .i64) (Kd.pair (Kd.int .i64) (Kd.pair (Kd.int .i64) Kd.string))) (fun x : S58 => (x.f0, x.f1, x.f2, x.f3))
theorem k58_heap : Kd.Heap k58 := Kd.heap_iso _ (Kd.heap_pair (Kd.heap_int .i64) (Kd.heap_pair (Kd.heap_int .i64) (Kd.heap_pair (Kd.heap_int .i64) Kd.heap_string)))
theorem k58_open {w : World} {x : S58} {cs : List Value} (h : k58.K w x cs) : cs = [.int .i64 x.f0, .int .i64 x.f1, .int .i64 x.f2, .string x.f3] := by
 obtain ⟨_, _, rfl, rfl, ⟨_, _, rfl, rfl, ⟨_, _, rfl, rfl, rfl⟩⟩⟩ := h
 exact rfl
theorem k58_openM {w : World} {base : Nat} {ok : Nat → Prop} {x : S58} {cs : List Value} (h : k58.M w base ok x cs) : cs = [.int .i64 x.f0, .int .i64 x.f1, .int .i64 x.f2, .string x.f3] := by
 obtain ⟨_, _, rfl, rfl, ⟨_, _, rfl, rfl, ⟨_, _, rfl, rfl, rfl⟩⟩⟩ := h
 exact rfl
theorem k58_mk (w : World) (x : S58)  : k58.K w x [.int .i64 x.f0, .int .i64 x.f1, .int .i64 x.f2, .string x.f3] := ⟨[.int .i64 x.f0], [.int .i64 x.f1, .int .i64 x.f2, .string x.f3], rfl, rfl, ⟨[.int .i64 x.f1], [.int .i64 x.f2, .string x.f3], rfl, rfl, ⟨[.int .i64 x.f2], [.string x.f3], rfl, rfl, rfl⟩⟩⟩
theorem k58_mkM (w : World) (base : Nat) (ok : Nat → Prop) (x : S58)  : k58.M w base ok x [.int .i64 x.f0, .int .i64 x.f1, .int .i64 x.f2, .string x.f3] := ⟨[.int .i64 x.f0], [.int .i64 x.f1, .int .i64 x.f2, .string x.f3], rfl, rfl, ⟨[.int .i64 x.f1], [.int .i64 x.f2, .string x.f3], rfl, rfl, ⟨[.int .i64 x.f2], [.string x.f3], rfl, rfl, rfl⟩⟩⟩
theorem k58_mkF (W : World) (ok : Nat → Prop) (x : S58) : Kd.FK k58 W ok x [.int .i64 x.f0, .int .i64 x.f1, .int .i64 x.f2, .string x.f3] := fun W2 _ => k58_mk W2 x
def rd_T58 (xs : List S58) (i : Int) : S58 := xs.getD i.toNat z58
theorem at_T58 {w : World} {A : Option Addr} {n : Nat} {xs : List S58} (h : Kd.C k58 w A n xs) (i : Int) (h0 : 0 ≤ i) (h1 : i < n) : ∃ ad , A = some ad ∧ w.cell? (ad.add (i.toNat * 4)) = some (.int .i64 (rd_T58 xs i).f0) ∧ w.cell? ⟨(ad.add (i.toNat * 4)).block, (ad.add (i.toNat * 4)).off + 1, none⟩ = some (.int .i64 (rd_T58 xs i).f1) ∧ w.cell? ⟨(ad.add (i.toNat * 4)).block, (ad.add (i.toNat * 4)).off + 2, none⟩ = some (.int .i64 (rd_T58 xs i).f2) ∧ w.cell? ⟨(ad.add (i.toNat * 4)).block, (ad.add (i.toNat * 4)).off + 3, none⟩ = some (.string (rd_T58 xs i).f3) := by
 obtain ⟨ad, c, e, _, hK, hc0⟩ := Kd.C_get h z58 i h0 h1
 have hc : ∀ j u, c[j]? = some u → w.cell? (ad.add (i.toNat * 4 + j)) = some u := hc0
 obtain rfl := k58_open hK
 exact ⟨ad, e, hc 0 _ rfl, by rw [← add_field _ _ 1 (by omega)]; exact hc 1 _ rfl, by rw [← add_field _ _ 2 (by omega)]; exact hc 2 _ rfl, by rw [← add_field _ _ 3 (by omega)]; exact hc 3 _ rfl⟩
def knot_First.f (a0 : ByteArray) : Option (ByteArray × ByteArray × Int) := if 0 ≤ (mn (a0.size : Int) 1048576) then (if (mn (a0.size : Int) 1048576) ≤ (a0.size : Int) then ((strings_Cut.f (a0.extract 0 ((mn (a0.size : Int) 1048576) : Int).toNat) (⟨#[58]⟩ : ByteArray)).bind fun bt163 => ((knot_Int.f bt163.1).bind fun bt166 => (if bt163.2.2 = true then (if bt166.2 = 0 then (if bt166.1 < 0 then (some ((⟨#[]⟩ : ByteArray), a0, 10)) else (if bt166.1 ≥ (bt163.2.1.size : Int) then (some ((⟨#[]⟩ : ByteArray), a0, 10)) else (if 0 ≤ bt166.1 then (if bt166.1 < (bt163.2.1.size : Int) then (if (bt bt163.2.1 bt166.1) = 44 then (if bt166.1 ≤ (bt163.2.1.size : Int) then (if 0 ≤ (wrap64 ((wrap64 ((wrap64 ((bt163.1.size : Int) + 1)) + bt166.1)) + 1)) then (if (wrap64 ((wrap64 ((wrap64 ((bt163.1.size : Int) + 1)) + bt166.1)) + 1)) ≤ (a0.size : Int) then (some (bt163.2.1.extract 0 (bt166.1 : Int).toNat, a0.extract ((wrap64 ((wrap64 ((wrap64 ((bt163.1.size : Int) + 1)) + bt166.1)) + 1)) : Int).toNat a0.size, 0)) else (none)) else (none)) else (none)) else (some ((⟨#[]⟩ : ByteArray), a0, 10))) else (none)) else (none)))) else (some ((⟨#[]⟩ : ByteArray), a0, 10))) else (some ((⟨#[]⟩ : ByteArray), a0, 10))))) else (none)) else (none)
set_option maxHeartbeats 8000000 in
set_option maxRecDepth 100000 in
theorem knot_First.calls (a0 : ByteArray) (r1 : ByteArray) (r2 : ByteArray) (r3 : Int) (w : World) (hG : TheG w) (h : knot_First.f a0 = some (r1, r2, r3)) :
 Calls Tryd.prog 69 #[.string a0] w fun e w' => e = .returned (.tuple #[.string r1, .string r2, .int .i64 r3]) ∧ Below w.heap.size w w' := by
 have HB := Az.mk (Below.refl w.heap.size w)
 have H : (if 0 ≤ (mn (a0.size : Int) 1048576) then (if (mn (a0.size : Int) 1048576) ≤ (a0.size : Int) then ((strings_Cut.f (a0.extract 0 ((mn (a0.size : Int) 1048576) : Int).toNat) (⟨#[58]⟩ : ByteArray)).bind fun bt163 => ((knot_Int.f bt163.1).bind fun bt166 => (if bt163.2.2 = true then (if bt166.2 = 0 then (if bt166.1 < 0 then (some ((⟨#[]⟩ : ByteArray), a0, 10)) else (if bt166.1 ≥ (bt163.2.1.size : Int) then (some ((⟨#[]⟩ : ByteArray), a0, 10)) else (if 0 ≤ bt166.1 then (if bt166.1 < (bt163.2.1.size : Int) then (if (bt bt163.2.1 bt166.1) = 44 then (if bt166.1 ≤ (bt163.2.1.size : Int) then (if 0 ≤ (wrap64 ((wrap64 ((wrap64 ((bt163.1.size : Int) + 1)) + bt166.1)) + 1)) then (if (wrap64 ((wrap64 ((wrap64 ((bt163.1.size : Int) + 1)) + bt166.1)) + 1)) ≤ (a0.size : Int) then (some (bt163.2.1.extract 0 (bt166.1 : Int).toNat, a0.extract ((wrap64 ((wrap64 ((wrap64 ((bt163.1.size : Int) + 1)) + bt166.1)) + 1)) : Int).toNat a0.size, 0)) else (none)) else (none)) else (none)) else (some ((⟨#[]⟩ : ByteArray), a0, 10))) else (none)) else (none)))) else (some ((⟨#[]⟩ : ByteArray), a0, 10))) else (some ((⟨#[]⟩ : ByteArray), a0, 10))))) else (none)) else (none)) = some (r1, r2, r3) := h
 clear h
 obtain ⟨ji2, hji2⟩ : ∃ j_ : Int, (mn (a0.size : Int) 1048576) = j_ := ⟨_, rfl⟩
 replace H : (if 0 ≤ (ji2) then (if (ji2) ≤ (a0.size : Int) then ((strings_Cut.f (a0.extract 0 ((ji2) : Int).toNat) (⟨#[58]⟩ : ByteArray)).bind fun bt163 => ((knot_Int.f bt163.1).bind fun bt166 => (if bt163.2.2 = true then (if bt166.2 = 0 then (if bt166.1 < 0 then (some ((⟨#[]⟩ : ByteArray), a0, 10)) else (if bt166.1 ≥ (bt163.2.1.size : Int) then (some ((⟨#[]⟩ : ByteArray), a0, 10)) else (if 0 ≤ bt166.1 then (if bt166.1 < (bt163.2.1.size : Int) then (if (bt bt163.2.1 bt166.1) = 44 then (if bt166.1 ≤ (bt163.2.1.size : Int) then (if 0 ≤ (wrap64 ((wrap64 ((wrap64 ((bt163.1.size : Int) + 1)) + bt166.1)) + 1)) then (if (wrap64 ((wrap64 ((wrap64 ((bt163.1.size : Int) + 1)) + bt166.1)) + 1)) ≤ (a0.size : Int) then (some (bt163.2.1.extract 0 (bt166.1 : Int).toNat, a0.extract ((wrap64 ((wrap64 ((wrap64 ((bt163.1.size : Int) + 1)) + bt166.1)) + 1)) : Int).toNat a0.size, 0)) else (none)) else (none)) else (none)) else (some ((⟨#[]⟩ : ByteArray), a0, 10))) else (none)) else (none)))) else (some ((⟨#[]⟩ : ByteArray), a0, 10))) else (some ((⟨#[]⟩ : ByteArray), a0, 10))))) else (none)) else (none)) = some (r1, r2, r3) := by first | (rw [hji2] at H; exact H) | (simp only [hji2] at H ⊢; exact H)
 (try (have hji2h : ji2 ≤ 1048576 := by (rw [← hji2]; unfold mn; (repeat' split) <;> omega)))
 (try (have hji2g : ji2 ≤ 64 := by omega))
 (try (have hji2l : 0 ≤ ji2 := by (rw [← hji2]; unfold mn; (repeat' split) <;> omega)))
 (try (have hji2m : 0 ≤ ji2 := by omega))
 have hji2_ : (if 1048576 < (a0.size : Int) then 1048576 else (a0.size : Int)) = ji2 := hji2
 by_cases c3 : 0 ≤ (ji2)
 ·rw [if_pos c3] at H
  have c3b0 := eq_true c3
  have c3b1 : decide (0 ≤ (ji2)) = true := decide_eq_true c3
  clear c3
  by_cases c4 : (ji2) ≤ (a0.size : Int)
  ·rw [if_pos c4] at H
   have c4b0 := eq_true c4
   have c4b1 : decide ((ji2) ≤ (a0.size : Int)) = true := decide_eq_true c4
   clear c4
   replace H := Option.bind_eq_some_iff.mp H
   obtain ⟨⟨t163, t164, t165⟩, A50, H⟩ := H
   try dsimp only at H
   have A5 := Az.mk A50
   clear A50
   replace H := Option.bind_eq_some_iff.mp H
   obtain ⟨⟨t166, t167⟩, A60, H⟩ := H
   try dsimp only at H
   have A6 := Az.mk A60
   clear A60
   by_cases c7 : t165 = true
   ·subst c7
    rw [if_pos rfl] at H
    by_cases c8 : t167 = 0
    ·rw [if_pos c8] at H
     have c8b0 : (t167 == 0) = true := beq_iff_eq.mpr c8
     have c8b1 : (t167 != 0) = false := bne_eq_false_iff_eq.mpr c8
     clear c8
     by_cases c9 : t166 < 0
     ·rw [if_pos c9] at H
      have c9b0 : decide (t166 < 0) = true := decide_eq_true c9
      clear c9
      simp only [Option.some.injEq, Prod.mk.injEq] at H
      obtain ⟨rfl, rfl, rfl⟩ := H
      go_enter Tryd.func69, Tryd.ntmps69
      go_wp2_with (first | (go_at_call 76; (with_reducible refine (strings_Cut.calls (a0.extract 0 ((ji2) : Int).toNat) (⟨#[58]⟩ : ByteArray) t163 t164 true _ ?side1 A5.out).mono ?_); (case side1 => exact hG.below (by exact pbE HB.out)); rintro e w' ⟨rfl, ⟨nd, rfl⟩⟩; (try first | exact ⟨rfl, _, World.drewN_drewN _ _ _⟩ | exact ⟨rfl, _, Eq.trans (World.drewN_drewN _ _ _) (congrArg (World.drewN _) (Nat.add_assoc _ _ _))⟩)) | (go_at_call 70; (with_reducible refine (knot_Int.calls t163 t166 t167 _ ?side1 A6.out).mono ?_); (case side1 => exact hG.below (by exact pbE HB.out)); rintro e w10 ⟨rfl, hb⟩; replace HB := Az.mk (pbT (by exact pbE HB.out) hb); (try clear hb); (try clear hb2); (try clear hk); (try clear hi)))
      repeat (go_quiet (first | (go_at_call 76; (with_reducible refine (strings_Cut.calls (a0.extract 0 ((ji2) : Int).toNat) (⟨#[58]⟩ : ByteArray) t163 t164 true _ ?side1 A5.out).mono ?_); (case side1 => exact hG.below (by exact pbE HB.out)); rintro e w' ⟨rfl, ⟨nd, rfl⟩⟩; (try first | exact ⟨rfl, _, World.drewN_drewN _ _ _⟩ | exact ⟨rfl, _, Eq.trans (World.drewN_drewN _ _ _) (congrArg (World.drewN _) (Nat.add_assoc _ _ _))⟩)) | (go_at_call 70; (with_reducible refine (knot_Int.calls t163 t166 t167 _ ?side1 A6.out).mono ?_); (case side1 => exact hG.below (by exact pbE HB.out)); rintro e w10 ⟨rfl, hb⟩; replace HB := Az.mk (pbT (by exact pbE HB.out) hb); (try clear hb); (try clear hb2); (try clear hk); (try clear hi))); try go_wp2_with (first | (go_at_call 76; (with_reducible refine (strings_Cut.calls (a0.extract 0 ((ji2) : Int).toNat) (⟨#[58]⟩ : ByteArray) t163 t164 true _ ?side1 A5.out).mono ?_); (case side1 => exact hG.below (by exact pbE HB.out)); rintro e w' ⟨rfl, ⟨nd, rfl⟩⟩; (try first | exact ⟨rfl, _, World.drewN_drewN _ _ _⟩ | exact ⟨rfl, _, Eq.trans (World.drewN_drewN _ _ _) (congrArg (World.drewN _) (Nat.add_assoc _ _ _))⟩)) | (go_at_call 70; (with_reducible refine (knot_Int.calls t163 t166 t167 _ ?side1 A6.out).mono ?_); (case side1 => exact hG.below (by exact pbE HB.out)); rintro e w10 ⟨rfl, hb⟩; replace HB := Az.mk (pbT (by exact pbE HB.out) hb); (try clear hb); (try clear hb2); (try clear hk); (try clear hi))))
      go_ret3
      exact ⟨by first | rfl | (simp [errW_none, errW_some] <;> rfl) | (simp only [← hji2]; first | rfl | (simp [errW_none, errW_some] <;> rfl)) | (simp [*, errW_none, errW_some] <;> rfl), by exact pbE HB.out⟩
     ·rw [if_neg c9] at H
      have c9b0 : decide (t166 < 0) = false := decide_eq_false c9
      clear c9
      by_cases c11 : t166 ≥ (t164.size : Int)
      ·rw [if_pos c11] at H
       have c11b0 : decide ((t164.size : Int) ≤ t166) = true := decide_eq_true c11
       clear c11
       simp only [Option.some.injEq, Prod.mk.injEq] at H
       obtain ⟨rfl, rfl, rfl⟩ := H
       go_enter Tryd.func69, Tryd.ntmps69
       go_wp2_with (first | (go_at_call 76; (with_reducible refine (strings_Cut.calls (a0.extract 0 ((ji2) : Int).toNat) (⟨#[58]⟩ : ByteArray) t163 t164 true _ ?side1 A5.out).mono ?_); (case side1 => exact hG.below (by exact pbE HB.out)); rintro e w' ⟨rfl, ⟨nd, rfl⟩⟩; (try first | exact ⟨rfl, _, World.drewN_drewN _ _ _⟩ | exact ⟨rfl, _, Eq.trans (World.drewN_drewN _ _ _) (congrArg (World.drewN _) (Nat.add_assoc _ _ _))⟩)) | (go_at_call 70; (with_reducible refine (knot_Int.calls t163 t166 t167 _ ?side1 A6.out).mono ?_); (case side1 => exact hG.below (by exact pbE HB.out)); rintro e w12 ⟨rfl, hb⟩; replace HB := Az.mk (pbT (by exact pbE HB.out) hb); (try clear hb); (try clear hb2); (try clear hk); (try clear hi)))
       repeat (go_quiet (first | (go_at_call 76; (with_reducible refine (strings_Cut.calls (a0.extract 0 ((ji2) : Int).toNat) (⟨#[58]⟩ : ByteArray) t163 t164 true _ ?side1 A5.out).mono ?_); (case side1 => exact hG.below (by exact pbE HB.out)); rintro e w' ⟨rfl, ⟨nd, rfl⟩⟩; (try first | exact ⟨rfl, _, World.drewN_drewN _ _ _⟩ | exact ⟨rfl, _, Eq.trans (World.drewN_drewN _ _ _) (congrArg (World.drewN _) (Nat.add_assoc _ _ _))⟩)) | (go_at_call 70; (with_reducible refine (knot_Int.calls t163 t166 t167 _ ?side1 A6.out).mono ?_); (case side1 => exact hG.below (by exact pbE HB.out)); rintro e w12 ⟨rfl, hb⟩; replace HB := Az.mk (pbT (by exact pbE HB.out) hb); (try clear hb); (try clear hb2); (try clear hk); (try clear hi))); try go_wp2_with (first | (go_at_call 76; (with_reducible refine (strings_Cut.calls (a0.extract 0 ((ji2) : Int).toNat) (⟨#[58]⟩ : ByteArray) t163 t164 true _ ?side1 A5.out).mono ?_); (case side1 => exact hG.below (by exact pbE HB.out)); rintro e w' ⟨rfl, ⟨nd, rfl⟩⟩; (try first | exact ⟨rfl, _, World.drewN_drewN _ _ _⟩ | exact ⟨rfl, _, Eq.trans (World.drewN_drewN _ _ _) (congrArg (World.drewN _) (Nat.add_assoc _ _ _))⟩)) | (go_at_call 70; (with_reducible refine (knot_Int.calls t163 t166 t167 _ ?side1 A6.out).mono ?_); (case side1 => exact hG.below (by exact pbE HB.out)); rintro e w12 ⟨rfl, hb⟩; replace HB := Az.mk (pbT (by exact pbE HB.out) hb); (try clear hb); (try clear hb2); (try clear hk); (try clear hi))))
       go_ret3
       exact ⟨by first | rfl | (simp [errW_none, errW_some] <;> rfl) | (simp only [← hji2]; first | rfl | (simp [errW_none, errW_some] <;> rfl)) | (simp [*, errW_none, errW_some] <;> rfl), by exact pbE HB.out⟩
      ·rw [if_neg c11] at H
       have c11b0 : decide ((t164.size : Int) ≤ t166) = false := decide_eq_false c11
       clear c11
       by_cases c13 : 0 ≤ t166
       ·rw [if_pos c13] at H
        have c13b0 : decide (0 ≤ t166) = true := decide_eq_true c13
        clear c13
        by_cases c14 : t166 < (t164.size : Int)
        ·rw [if_pos c14] at H
         have c14b0 : decide (t166 < (t164.size : Int)) = true := decide_eq_true c14
         clear c14
         by_cases c16 : (bt t164 t166) = 44
         ·rw [if_pos c16] at H
          have c16b0 : ((bt t164 t166) == 44) = true := beq_iff_eq.mpr c16
          have c16b1 : ((bt t164 t166) != 44) = false := bne_eq_false_iff_eq.mpr c16
          clear c16
          have c17b0 := eq_true (of_decide_eq_true (by first | (with_reducible assumption) | assumption) : 0 ≤ t166)
          by_cases c18 : t166 ≤ (t164.size : Int)
          ·rw [if_pos c18] at H
           have c18b0 := eq_true c18
           have c18b1 : decide (t166 ≤ (t164.size : Int)) = true := decide_eq_true c18
           clear c18
           obtain ⟨ji19, hji19⟩ : ∃ j_ : Int, (wrap64 ((wrap64 ((wrap64 ((t163.size : Int) + 1)) + t166)) + 1)) = j_ := ⟨_, rfl⟩
           replace H : (if 0 ≤ (ji19) then (if (ji19) ≤ (a0.size : Int) then (some (t164.extract 0 (t166 : Int).toNat, a0.extract ((ji19) : Int).toNat a0.size, 0)) else (none)) else (none)) = some (r1, r2, r3) := by first | (rw [hji19] at H; exact H) | (simp only [hji19] at H ⊢; exact H)
           (try rw [hji19] at A5)
           (try rw [hji19] at A6)
           have hji19w : (IntKind.i64.wrap ((wrap64 ((wrap64 ((t163.size : Int) + 1)) + t166)) + 1)) = ji19 := (i64_w _).trans hji19
           by_cases c20 : 0 ≤ (ji19)
           ·rw [if_pos c20] at H
            have c20b0 := eq_true c20
            have c20b1 : decide (0 ≤ (ji19)) = true := decide_eq_true c20
            clear c20
            by_cases c21 : (ji19) ≤ (a0.size : Int)
            ·rw [if_pos c21] at H
             have c21b0 := eq_true c21
             have c21b1 : decide ((ji19) ≤ (a0.size : Int)) = true := decide_eq_true c21
             clear c21
             simp only [Option.some.injEq, Prod.mk.injEq] at H
             obtain ⟨rfl, rfl, rfl⟩ := H
             go_enter Tryd.func69, Tryd.ntmps69
             go_wp2_with (first | (go_at_call 76; (with_reducible refine (strings_Cut.calls (a0.extract 0 ((ji2) : Int).toNat) (⟨#[58]⟩ : ByteArray) t163 t164 true _ ?side1 A5.out).mono ?_); (case side1 => exact hG.below (by exact pbE HB.out)); rintro e w' ⟨rfl, ⟨nd, rfl⟩⟩; (try first | exact ⟨rfl, _, World.drewN_drewN _ _ _⟩ | exact ⟨rfl, _, Eq.trans (World.drewN_drewN _ _ _) (congrArg (World.drewN _) (Nat.add_assoc _ _ _))⟩)) | (go_at_call 70; (with_reducible refine (knot_Int.calls t163 t166 t167 _ ?side1 A6.out).mono ?_); (case side1 => exact hG.below (by exact pbE HB.out)); rintro e w22 ⟨rfl, hb⟩; replace HB := Az.mk (pbT (by exact pbE HB.out) hb); (try clear hb); (try clear hb2); (try clear hk); (try clear hi); have p15 : 0 ≤ (t166 : Int) := of_decide_eq_true (by first | (with_reducible assumption) | assumption); have q15 : t166 < (t164.size : Int) := of_decide_eq_true (by first | (with_reducible assumption) | assumption); have hx15 := bt_at t164 t166; replace p15 := eq_true p15; replace q15 := eq_true q15))
             repeat (go_quiet (first | (go_at_call 76; (with_reducible refine (strings_Cut.calls (a0.extract 0 ((ji2) : Int).toNat) (⟨#[58]⟩ : ByteArray) t163 t164 true _ ?side1 A5.out).mono ?_); (case side1 => exact hG.below (by exact pbE HB.out)); rintro e w' ⟨rfl, ⟨nd, rfl⟩⟩; (try first | exact ⟨rfl, _, World.drewN_drewN _ _ _⟩ | exact ⟨rfl, _, Eq.trans (World.drewN_drewN _ _ _) (congrArg (World.drewN _) (Nat.add_assoc _ _ _))⟩)) | (go_at_call 70; (with_reducible refine (knot_Int.calls t163 t166 t167 _ ?side1 A6.out).mono ?_); (case side1 => exact hG.below (by exact pbE HB.out)); rintro e w22 ⟨rfl, hb⟩; replace HB := Az.mk (pbT (by exact pbE HB.out) hb); (try clear hb); (try clear hb2); (try clear hk); (try clear hi); have p15 : 0 ≤ (t166 : Int) := of_decide_eq_true (by first | (with_reducible assumption) | assumption); have q15 : t166 < (t164.size : Int) := of_decide_eq_true (by first | (with_reducible assumption) | assumption); have hx15 := bt_at t164 t166; replace p15 := eq_true p15; replace q15 := eq_true q15)); try go_wp2_with (first | (go_at_call 76; (with_reducible refine (strings_Cut.calls (a0.extract 0 ((ji2) : Int).toNat) (⟨#[58]⟩ : ByteArray) t163 t164 true _ ?side1 A5.out).mono ?_); (case side1 => exact hG.below (by exact pbE HB.out)); rintro e w' ⟨rfl, ⟨nd, rfl⟩⟩; (try first | exact ⟨rfl, _, World.drewN_drewN _ _ _⟩ | exact ⟨rfl, _, Eq.trans (World.drewN_drewN _ _ _) (congrArg (World.drewN _) (Nat.add_assoc _ _ _))⟩)) | (go_at_call 70; (with_reducible refine (knot_Int.calls t163 t166 t167 _ ?side1 A6.out).mono ?_); (case side1 => exact hG.below (by exact pbE HB.out)); rintro e w22 ⟨rfl, hb⟩; replace HB := Az.mk (pbT (by exact pbE HB.out) hb); (try clear hb); (try clear hb2); (try clear hk); (try clear hi); have p15 : 0 ≤ (t166 : Int) := of_decide_eq_true (by first | (with_reducible assumption) | assumption); have q15 : t166 < (t164.size : Int) := of_decide_eq_true (by first | (with_reducible assumption) | assumption); have hx15 := bt_at t164 t166; replace p15 := eq_true p15; replace q15 := eq_true q15)))
             go_ret3
             exact ⟨by first | rfl | (simp [errW_none, errW_some] <;> rfl) | (simp only [← hji2, ← hji19]; first | rfl | (simp [errW_none, errW_some] <;> rfl)) | (simp [*, errW_none, errW_some] <;> rfl), by exact pbE HB.out⟩
            ·rw [if_neg c21] at H
             exact absurd H (by simp)
           ·rw [if_neg c20] at H
            exact absurd H (by simp)
          ·rw [if_neg c18] at H
           exact absurd H (by simp)
         ·rw [if_neg c16] at H
          have c16b0 : ((bt t164 t166) == 44) = false := beq_eq_false_iff_ne.mpr c16
          have c16b1 : ((bt t164 t166) != 44) = true := bne_iff_ne.mpr c16
          simp only [Option.some.injEq, Prod.mk.injEq] at H
          obtain ⟨rfl, rfl, rfl⟩ := H
          go_enter Tryd.func69, Tryd.ntmps69
          go_wp2_with (first | (go_at_call 76; (with_reducible refine (strings_Cut.calls (a0.extract 0 ((ji2) : Int).toNat) (⟨#[58]⟩ : ByteArray) t163 t164 true _ ?side1 A5.out).mono ?_); (case side1 => exact hG.below (by exact pbE HB.out)); rintro e w' ⟨rfl, ⟨nd, rfl⟩⟩; (try first | exact ⟨rfl, _, World.drewN_drewN _ _ _⟩ | exact ⟨rfl, _, Eq.trans (World.drewN_drewN _ _ _) (congrArg (World.drewN _) (Nat.add_assoc _ _ _))⟩)) | (go_at_call 70; (with_reducible refine (knot_Int.calls t163 t166 t167 _ ?side1 A6.out).mono ?_); (case side1 => exact hG.below (by exact pbE HB.out)); rintro e w23 ⟨rfl, hb⟩; replace HB := Az.mk (pbT (by exact pbE HB.out) hb); (try clear hb); (try clear hb2); (try clear hk); (try clear hi); have p15 : 0 ≤ (t166 : Int) := of_decide_eq_true (by first | (with_reducible assumption) | assumption); have q15 : t166 < (t164.size : Int) := of_decide_eq_true (by first | (with_reducible assumption) | assumption); have hx15 := bt_at t164 t166; replace p15 := eq_true p15; replace q15 := eq_true q15))
          repeat (go_quiet (first | (go_at_call 76; (with_reducible refine (strings_Cut.calls (a0.extract 0 ((ji2) : Int).toNat) (⟨#[58]⟩ : ByteArray) t163 t164 true _ ?side1 A5.out).mono ?_); (case side1 => exact hG.below (by exact pbE HB.out)); rintro e w' ⟨rfl, ⟨nd, rfl⟩⟩; (try first | exact ⟨rfl, _, World.drewN_drewN _ _ _⟩ | exact ⟨rfl, _, Eq.trans (World.drewN_drewN _ _ _) (congrArg (World.drewN _) (Nat.add_assoc _ _ _))⟩)) | (go_at_call 70; (with_reducible refine (knot_Int.calls t163 t166 t167 _ ?side1 A6.out).mono ?_); (case side1 => exact hG.below (by exact pbE HB.out)); rintro e w23 ⟨rfl, hb⟩; replace HB := Az.mk (pbT (by exact pbE HB.out) hb); (try clear hb); (try clear hb2); (try clear hk); (try clear hi); have p15 : 0 ≤ (t166 : Int) := of_decide_eq_true (by first | (with_reducible assumption) | assumption); have q15 : t166 < (t164.size : Int) := of_decide_eq_true (by first | (with_reducible assumption) | assumption); have hx15 := bt_at t164 t166; replace p15 := eq_true p15; replace q15 := eq_true q15)); try go_wp2_with (first | (go_at_call 76; (with_reducible refine (strings_Cut.calls (a0.extract 0 ((ji2) : Int).toNat) (⟨#[58]⟩ : ByteArray) t163 t164 true _ ?side1 A5.out).mono ?_); (case side1 => exact hG.below (by exact pbE HB.out)); rintro e w' ⟨rfl, ⟨nd, rfl⟩⟩; (try first | exact ⟨rfl, _, World.drewN_drewN _ _ _⟩ | exact ⟨rfl, _, Eq.trans (World.drewN_drewN _ _ _) (congrArg (World.drewN _) (Nat.add_assoc _ _ _))⟩)) | (go_at_call 70; (with_reducible refine (knot_Int.calls t163 t166 t167 _ ?side1 A6.out).mono ?_); (case side1 => exact hG.below (by exact pbE HB.out)); rintro e w23 ⟨rfl, hb⟩; replace HB := Az.mk (pbT (by exact pbE HB.out) hb); (try clear hb); (try clear hb2); (try clear hk); (try clear hi); have p15 : 0 ≤ (t166 : Int) := of_decide_eq_true (by first | (with_reducible assumption) | assumption); have q15 : t166 < (t164.size : Int) := of_decide_eq_true (by first | (with_reducible assumption) | assumption); have hx15 := bt_at t164 t166; replace p15 := eq_true p15; replace q15 := eq_true q15)))
          go_ret3
          exact ⟨by first | rfl | (simp [errW_none, errW_some] <;> rfl) | (simp only [← hji2]; first | rfl | (simp [errW_none, errW_some] <;> rfl)) | (simp [*, errW_none, errW_some] <;> rfl), by exact pbE HB.out⟩
        ·rw [if_neg c14] at H
         exact absurd H (by simp)
       ·rw [if_neg c13] at H
        exact absurd H (by simp)
    ·rw [if_neg c8] at H
     have c8b0 : (t167 == 0) = false := beq_eq_false_iff_ne.mpr c8
     have c8b1 : (t167 != 0) = true := bne_iff_ne.mpr c8
     simp only [Option.some.injEq, Prod.mk.injEq] at H
     obtain ⟨rfl, rfl, rfl⟩ := H
     go_enter Tryd.func69, Tryd.ntmps69
     go_wp2_with (first | (go_at_call 76; (with_reducible refine (strings_Cut.calls (a0.extract 0 ((ji2) : Int).toNat) (⟨#[58]⟩ : ByteArray) t163 t164 true _ ?side1 A5.out).mono ?_); (case side1 => exact hG.below (by exact pbE HB.out)); rintro e w' ⟨rfl, ⟨nd, rfl⟩⟩; (try first | exact ⟨rfl, _, World.drewN_drewN _ _ _⟩ | exact ⟨rfl, _, Eq.trans (World.drewN_drewN _ _ _) (congrArg (World.drewN _) (Nat.add_assoc _ _ _))⟩)) | (go_at_call 70; (with_reducible refine (knot_Int.calls t163 t166 t167 _ ?side1 A6.out).mono ?_); (case side1 => exact hG.below (by exact pbE HB.out)); rintro e w24 ⟨rfl, hb⟩; replace HB := Az.mk (pbT (by exact pbE HB.out) hb); (try clear hb); (try clear hb2); (try clear hk); (try clear hi)))
     repeat (go_quiet (first | (go_at_call 76; (with_reducible refine (strings_Cut.calls (a0.extract 0 ((ji2) : Int).toNat) (⟨#[58]⟩ : ByteArray) t163 t164 true _ ?side1 A5.out).mono ?_); (case side1 => exact hG.below (by exact pbE HB.out)); rintro e w' ⟨rfl, ⟨nd, rfl⟩⟩; (try first | exact ⟨rfl, _, World.drewN_drewN _ _ _⟩ | exact ⟨rfl, _, Eq.trans (World.drewN_drewN _ _ _) (congrArg (World.drewN _) (Nat.add_assoc _ _ _))⟩)) | (go_at_call 70; (with_reducible refine (knot_Int.calls t163 t166 t167 _ ?side1 A6.out).mono ?_); (case side1 => exact hG.below (by exact pbE HB.out)); rintro e w24 ⟨rfl, hb⟩; replace HB := Az.mk (pbT (by exact pbE HB.out) hb); (try clear hb); (try clear hb2); (try clear hk); (try clear hi))); try go_wp2_with (first | (go_at_call 76; (with_reducible refine (strings_Cut.calls (a0.extract 0 ((ji2) : Int).toNat) (⟨#[58]⟩ : ByteArray) t163 t164 true _ ?side1 A5.out).mono ?_); (case side1 => exact hG.below (by exact pbE HB.out)); rintro e w' ⟨rfl, ⟨nd, rfl⟩⟩; (try first | exact ⟨rfl, _, World.drewN_drewN _ _ _⟩ | exact ⟨rfl, _, Eq.trans (World.drewN_drewN _ _ _) (congrArg (World.drewN _) (Nat.add_assoc _ _ _))⟩)) | (go_at_call 70; (with_reducible refine (knot_Int.calls t163 t166 t167 _ ?side1 A6.out).mono ?_); (case side1 => exact hG.below (by exact pbE HB.out)); rintro e w24 ⟨rfl, hb⟩; replace HB := Az.mk (pbT (by exact pbE HB.out) hb); (try clear hb); (try clear hb2); (try clear hk); (try clear hi))))
     go_ret3
     exact ⟨by first | rfl | (simp [errW_none, errW_some] <;> rfl) | (simp only [← hji2]; first | rfl | (simp [errW_none, errW_some] <;> rfl)) | (simp [*, errW_none, errW_some] <;> rfl), by exact pbE HB.out⟩
   ·replace c7 := Bool.eq_false_iff.mpr c7
    subst c7
    rw [if_neg (show ¬ (false = true) by decide)] at H
    simp only [Option.some.injEq, Prod.mk.injEq] at H
    obtain ⟨rfl, rfl, rfl⟩ := H
    go_enter Tryd.func69, Tryd.ntmps69
    go_wp2_with (first | (go_at_call 76; (with_reducible refine (strings_Cut.calls (a0.extract 0 ((ji2) : Int).toNat) (⟨#[58]⟩ : ByteArray) t163 t164 false _ ?side1 A5.out).mono ?_); (case side1 => exact hG.below (by exact pbE HB.out)); rintro e w' ⟨rfl, ⟨nd, rfl⟩⟩; (try first | exact ⟨rfl, _, World.drewN_drewN _ _ _⟩ | exact ⟨rfl, _, Eq.trans (World.drewN_drewN _ _ _) (congrArg (World.drewN _) (Nat.add_assoc _ _ _))⟩)) | (go_at_call 70; (with_reducible refine (knot_Int.calls t163 t166 t167 _ ?side1 A6.out).mono ?_); (case side1 => exact hG.below (by exact pbE HB.out)); rintro e w25 ⟨rfl, hb⟩; replace HB := Az.mk (pbT (by exact pbE HB.out) hb); (try clear hb); (try clear hb2); (try clear hk); (try clear hi)))
    repeat (go_quiet (first | (go_at_call 76; (with_reducible refine (strings_Cut.calls (a0.extract 0 ((ji2) : Int).toNat) (⟨#[58]⟩ : ByteArray) t163 t164 false _ ?side1 A5.out).mono ?_); (case side1 => exact hG.below (by exact pbE HB.out)); rintro e w' ⟨rfl, ⟨nd, rfl⟩⟩; (try first | exact ⟨rfl, _, World.drewN_drewN _ _ _⟩ | exact ⟨rfl, _, Eq.trans (World.drewN_drewN _ _ _) (congrArg (World.drewN _) (Nat.add_assoc _ _ _))⟩)) | (go_at_call 70; (with_reducible refine (knot_Int.calls t163 t166 t167 _ ?side1 A6.out).mono ?_); (case side1 => exact hG.below (by exact pbE HB.out)); rintro e w25 ⟨rfl, hb⟩; replace HB := Az.mk (pbT (by exact pbE HB.out) hb); (try clear hb); (try clear hb2); (try clear hk); (try clear hi))); try go_wp2_with (first | (go_at_call 76; (with_reducible refine (strings_Cut.calls (a0.extract 0 ((ji2) : Int).toNat) (⟨#[58]⟩ : ByteArray) t163 t164 false _ ?side1 A5.out).mono ?_); (case side1 => exact hG.below (by exact pbE HB.out)); rintro e w' ⟨rfl, ⟨nd, rfl⟩⟩; (try first | exact ⟨rfl, _, World.drewN_drewN _ _ _⟩ | exact ⟨rfl, _, Eq.trans (World.drewN_drewN _ _ _) (congrArg (World.drewN _) (Nat.add_assoc _ _ _))⟩)) | (go_at_call 70; (with_reducible refine (knot_Int.calls t163 t166 t167 _ ?side1 A6.out).mono ?_); (case side1 => exact hG.below (by exact pbE HB.out)); rintro e w25 ⟨rfl, hb⟩; replace HB := Az.mk (pbT (by exact pbE HB.out) hb); (try clear hb); (try clear hb2); (try clear hk); (try clear hi))))
    go_ret3
    exact ⟨by first | rfl | (simp [errW_none, errW_some] <;> rfl) | (simp only [← hji2]; first | rfl | (simp [errW_none, errW_some] <;> rfl)) | (simp [*, errW_none, errW_some] <;> rfl), by exact pbE HB.out⟩
  ·rw [if_neg c4] at H
   exact absurd H (by simp)
 ·rw [if_neg c3] at H
  exact absurd H (by simp)
def knot_Untie.l0 : Nat → ByteArray → List ByteArray → Option (List ByteArray × Int)
 | 0, _, _ => none
 | k + 1, x0, x2 => if x0.toList = ([] : List UInt8) then (some (x2, 0)) else ((knot_First.f x0).bind fun bt168 => (if bt168.2.2 = 0 then (if (x2.length : Int) ≥ 4096 then (some (([] : List ByteArray), 10)) else (if x2.length < 8796093022208 then (knot_Untie.l0 k bt168.2.1 (x2 ++ [bt168.1])) else (none))) else (some (([] : List ByteArray), 10))))
def knot_Untie.f (k : Nat) (a0 : ByteArray) : Option (List ByteArray × Int) := if (a0.size : Int) > 1048576 then (some (([] : List ByteArray), 10)) else (knot_Untie.l0 k a0 ([] : List ByteArray))
theorem knot_Untie.mono_l : ∀ k, (∀ y0 y1, LeO (knot_Untie.l0 k y0 y1) (knot_Untie.l0 (k + 1) y0 y1))
 | 0 => fun _ _ r h => by simp [knot_Untie.l0] at h
 | k + 1 => by
  have ih0 := knot_Untie.mono_l k
  ·intro y0 y1
   unfold knot_Untie.l0
   repeat' first
   | (with_reducible exact ih0 _ _)
   | (with_reducible exact LeO.refl _)
   | (with_reducible exact LeO.none _)
   | (with_reducible refine LeO.ite ?_ ?_)
   | (with_reducible refine LeO.bind ?_ (fun _ => ?_))
   | exact ih0 _ _
   | exact LeO.none _
   | refine LeO.ite ?_ ?_
   | refine LeO.bind ?_ (fun _ => ?_)
theorem knot_Untie.mono : ∀ a0 k, LeO (knot_Untie.f k a0) (knot_Untie.f (k + 1) a0) := by
 intro a0 k
 have ih0 := knot_Untie.mono_l k
 unfold knot_Untie.f
 repeat' first
  | (with_reducible exact ih0 _ _)
  | (with_reducible exact LeO.refl _)
  | (with_reducible exact LeO.none _)
  | (with_reducible refine LeO.ite ?_ ?_)
  | (with_reducible refine LeO.bind ?_ (fun _ => ?_))
  | exact ih0 _ _
  | exact LeO.none _
  | refine LeO.ite ?_ ?_
  | refine LeO.bind ?_ (fun _ => ?_)
set_option maxHeartbeats 8000000 in
set_option maxRecDepth 100000 in
theorem knot_Untie.calls (k : Nat) (a0 : ByteArray) (r1 : List ByteArray) (r2 : Int) (w : World) (hG : TheG w) (h : knot_Untie.f k a0 = some (r1, r2)) :
 Calls Tryd.prog 43 #[.string a0] w fun e w' => ∃ v0_ : Value, e = .returned (.tuple #[v0_, .int .i64 r2]) ∧ Kd.R Kd.string 9 w' w.heap.size (fun _ => True) v0_ r1 ∧ Below w.heap.size w w' := by
 have HB := Az.mk (Below.refl w.heap.size w)
 have H : (if (a0.size : Int) > 1048576 then (some (([] : List ByteArray), 10)) else (knot_Untie.l0 k a0 ([] : List ByteArray))) = some (r1, r2) := h
 clear h
 by_cases c2 : (a0.size : Int) > 1048576
 ·rw [if_pos c2] at H
  have c2b0 : decide (1048576 < (a0.size : Int)) = true := decide_eq_true c2
  have c2b1 : decide (1048576 < a0.size) = true := decide_eq_true (by omega)
  clear c2
  simp only [Option.some.injEq, Prod.mk.injEq] at H
  obtain ⟨rfl, rfl⟩ := H
  go_enter Tryd.func43, Tryd.ntmps43
  go_wp2
  go_ret2
  exact ⟨_, by first | rfl | (simp [errW_none, errW_some] <;> rfl) | (simp [*, errW_none, errW_some] <;> rfl), by first | exact Kd.R_nil _ _ _ _ _ | exact Kd.N_nil _ _ _ _ _ | exact Kd.V_nil _ _ _ _ _ | exact Kd.Q_nil _ _ _ _ _ | exact Kd.S_nil _ _ _ _ _, by exact pbE HB.out⟩
 ·rw [if_neg c2] at H
  have c2b0 : decide (1048576 < (a0.size : Int)) = false := decide_eq_false c2
  have c2b1 : decide (1048576 < a0.size) = false := decide_eq_false (by omega)
  clear c2
  have H' := Az.mk H
  clear H
  go_enter Tryd.func43, Tryd.ntmps43
  go_wp2
  go_loopg [0, 2] k (fun kq v0 v2 w' => ∃ (x0_1 : ByteArray) (x2_1 : List ByteArray), v0 = .string x0_1 ∧ Az (knot_Untie.l0 kq x0_1 x2_1 = some (r1, r2)) ∧ Az (kq ≤ k) ∧ Az (Kd.R Kd.string 9 w' w.heap.size (fun _ => True) v2 x2_1) ∧ Az (Below w.heap.size w w'))
  case atStart => exact ⟨(a0), (([] : List ByteArray)), (by first | rfl | (simp; done) | (simp [*]; done)), H', ⟨Nat.le_refl _⟩, ⟨by first | exact Kd.R_nil _ _ _ _ _ | exact Kd.N_nil _ _ _ _ _ | exact Kd.V_nil _ _ _ _ _ | exact Kd.Q_nil _ _ _ _ _ | exact Kd.S_nil _ _ _ _ _⟩, ⟨by exact pbE HB.out⟩⟩
  case round =>
   clear H'
   try clear c2
   try clear c2b0
   try clear c2b1
   try clear p2
   obtain ⟨x0_1, x2_1, rfl, HA, HK1, HO_2, HB⟩ := hrel
   cases gk with
   | zero => exact absurd HA.out (by simp [knot_Untie.l0])
   | succ k1 =>
    have H := HA.out
    clear HA
    simp only [knot_Untie.l0] at H
    by_cases c3 : x0_1.toList = ([] : List UInt8)
    ·rw [if_pos c3] at H
     have c3b0 : (x0_1.toList == ([] : List UInt8)) = true := beq_iff_eq.mpr c3
     have c3b1 : (x0_1.toList != ([] : List UInt8)) = false := bne_eq_false_iff_eq.mpr c3
     clear c3
     simp only [Option.some.injEq, Prod.mk.injEq] at H
     obtain ⟨rfl, rfl⟩ := H
     go_wp2
     go_ret2
     exact ⟨_, by first | rfl | (simp [errW_none, errW_some] <;> rfl) | (simp [*, errW_none, errW_some] <;> rfl), by (with_reducible repeat (first | apply Kd.R_alloc | apply Kd.R_drewN | apply Kd.R_drew)); exact HO_2.out, by exact pbE HB.out⟩
    ·rw [if_neg c3] at H
     have c3b0 : (x0_1.toList == ([] : List UInt8)) = false := beq_eq_false_iff_ne.mpr c3
     have c3b1 : (x0_1.toList != ([] : List UInt8)) = true := bne_iff_ne.mpr c3
     replace H := Option.bind_eq_some_iff.mp H
     obtain ⟨⟨t168, t169, t170⟩, A40, H⟩ := H
     try dsimp only at H
     have A4 := Az.mk A40
     clear A40
     by_cases c5 : t170 = 0
     ·rw [if_pos c5] at H
      have c5b0 : (t170 == 0) = true := beq_iff_eq.mpr c5
      have c5b1 : (t170 != 0) = false := bne_eq_false_iff_eq.mpr c5
      clear c5
      by_cases c6 : (x2_1.length : Int) ≥ 4096
      ·rw [if_pos c6] at H
       have c6b0 : decide (4096 ≤ (x2_1.length : Int)) = true := decide_eq_true c6
       have c6b1 : decide (4096 ≤ x2_1.length) = true := decide_eq_true (by omega)
       clear c6
       simp only [Option.some.injEq, Prod.mk.injEq] at H
       obtain ⟨rfl, rfl⟩ := H
       go_wp2_with (first | ((with_reducible refine gtc (f := 69) rfl ?_); refine goesL_ (some 12) rfl rfl Tryd.func69 (by kernel_rfl) rfl #[.string x0_1] rfl (by (try simp only [List.map_toArray, List.map_cons, List.map_nil]); first | done | rfl | (simp only [List.length_drop, List.length_take]; rfl)) ?_; (with_reducible refine (knot_First.calls x0_1 t168 t169 t170 _ ?side1 A4.out).mono ?_); (case side1 => exact hG.below (by exact pbE HB.out)); rintro e w7 ⟨rfl, hb⟩; refine ⟨_, rfl, ?_⟩; replace HO_2 := Az.mk (Kd.R_below (Kd.R_ext HO_2.out) hb); replace HB := Az.mk (pbT (by exact pbE HB.out) hb); (try clear hb); (try clear hb2); (try clear hk); (try clear hi); obtain ⟨Ao8, co8, eo8⟩ := Kd.R_slice HO_2.out; subst eo8))
       go_ret2
       exact ⟨_, by first | rfl | (simp [errW_none, errW_some] <;> rfl) | (simp [*, errW_none, errW_some] <;> rfl), by first | exact Kd.R_nil _ _ _ _ _ | exact Kd.N_nil _ _ _ _ _ | exact Kd.V_nil _ _ _ _ _ | exact Kd.Q_nil _ _ _ _ _ | exact Kd.S_nil _ _ _ _ _, by exact pbE HB.out⟩
      ·rw [if_neg c6] at H
       have c6b0 : decide (4096 ≤ (x2_1.length : Int)) = false := decide_eq_false c6
       have c6b1 : decide (4096 ≤ x2_1.length) = false := decide_eq_false (by omega)
       clear c6
       by_cases c9 : x2_1.length < 8796093022208
       ·rw [if_pos c9] at H
        have LMc9 := Az.mk c9
        clear c9
        obtain ⟨y171, hy171⟩ : ∃ y_ : List ByteArray, y_ = (x2_1 ++ [t168]) := ⟨_, rfl⟩
        replace H : (knot_Untie.l0 k1 t169 y171) = some (r1, r2) := by first | (rw [hy171]; with_reducible exact H) | (have H2_ := (Option.bind_some _ _).symm.trans H; rw [hy171]; with_reducible exact H2_) | (have H2_ := (Option.bind_some _ _).symm.trans H; with_reducible exact H2_) | with_reducible exact H | (rw [hy171]; exact H) | exact H
        have Ny171 := Az.mk hy171
        clear hy171
        have H' := Az.mk H
        clear H
        go_wp2_with (first | ((with_reducible refine gtc (f := 69) rfl ?_); refine goesL_ (some 12) rfl rfl Tryd.func69 (by kernel_rfl) rfl #[.string x0_1] rfl (by (try simp only [List.map_toArray, List.map_cons, List.map_nil]); first | done | rfl | (simp only [List.length_drop, List.length_take]; rfl)) ?_; (with_reducible refine (knot_First.calls x0_1 t168 t169 t170 _ ?side1 A4.out).mono ?_); (case side1 => exact hG.below (by exact pbE HB.out)); rintro e w10 ⟨rfl, hb⟩; refine ⟨_, rfl, ?_⟩; replace HO_2 := Az.mk (Kd.R_below (Kd.R_ext HO_2.out) hb); replace HB := Az.mk (pbT (by exact pbE HB.out) hb); (try clear hb); (try clear hb2); (try clear hk); (try clear hi); obtain ⟨Ao11, co11, eo11⟩ := Kd.R_slice HO_2.out; subst eo11) | ((with_reducible refine gate_builtin (b := .append) (xs := #[.tmp 23, .tmp 25]) rfl ?_); (try (refine gate_guard (by rfl) ?_; dsimp only)); at_builtin; refine Kd.R_append Kd.string (w0 := w) w.heap.size rfl (.tmp 23) (.tmp 25) 79 9 (.string ⟨#[]⟩) 16 rfl Tryd.underlying79 info9 rfl (by decide) (by omega) (.slice Ao11 x2_1.length co11) x2_1 t168 [.string t168] (fun _ => True) (fun _ => False) rfl rfl ?aP (fun _ hk => hk.elim) ?aF ?aO ?aB ?aS ?aL ?_; (case aP => exact rfl); (case aB => exact (by exact pbE HB.out)); (case aF => exact (fun _ _ => trivial)); (case aO => exact (Kd.R_ext HO_2.out)); (case aS => exact (pbZ (by exact pbE HB.out))); (case aL => have := LMc9.out; omega); intro v172 w12 ho hb hg hat; rw [← Ny171.out] at ho; replace HB := Az.mk (hb); have HO173 := Az.mk (ho); clear HO_2; clear ho hb hg hat))
        go_roundg k1
        case measure => have := HK1.out; omega
        case rel => exact ⟨(t169), (y171), (by first | rfl | (simp; done) | (simp [*]; done)), H', ⟨by have := HK1.out; omega⟩, ⟨by (with_reducible repeat (first | apply Kd.R_alloc | apply Kd.R_drewN | apply Kd.R_drew)); exact HO173.out⟩, ⟨by exact pbE HB.out⟩⟩
       ·rw [if_neg c9] at H
        exact absurd H (by simp)
     ·rw [if_neg c5] at H
      have c5b0 : (t170 == 0) = false := beq_eq_false_iff_ne.mpr c5
      have c5b1 : (t170 != 0) = true := bne_iff_ne.mpr c5
      simp only [Option.some.injEq, Prod.mk.injEq] at H
      obtain ⟨rfl, rfl⟩ := H
      go_wp2_with (first | ((with_reducible refine gtc (f := 69) rfl ?_); refine goesL_ (some 12) rfl rfl Tryd.func69 (by kernel_rfl) rfl #[.string x0_1] rfl (by (try simp only [List.map_toArray, List.map_cons, List.map_nil]); first | done | rfl | (simp only [List.length_drop, List.length_take]; rfl)) ?_; (with_reducible refine (knot_First.calls x0_1 t168 t169 t170 _ ?side1 A4.out).mono ?_); (case side1 => exact hG.below (by exact pbE HB.out)); rintro e w13 ⟨rfl, hb⟩; refine ⟨_, rfl, ?_⟩; replace HO_2 := Az.mk (Kd.R_below (Kd.R_ext HO_2.out) hb); replace HB := Az.mk (pbT (by exact pbE HB.out) hb); (try clear hb); (try clear hb2); (try clear hk); (try clear hi)))
      go_ret2
      exact ⟨_, by first | rfl | (simp [errW_none, errW_some] <;> rfl) | (simp [*, errW_none, errW_some] <;> rfl), by first | exact Kd.R_nil _ _ _ _ _ | exact Kd.N_nil _ _ _ _ _ | exact Kd.V_nil _ _ _ _ _ | exact Kd.Q_nil _ _ _ _ _ | exact Kd.S_nil _ _ _ _ _, by exact pbE HB.out⟩
end Go.Proofs.YtjfhcijjjadhbaaDoor.P
end
section
namespace Go.Proofs.YtjfhcijjjadhbaaDoor.A
open Go
/-- Bytes out of a list. -/
def B (l : List UInt8) : ByteArray := ⟨l.toArray⟩
theorem B_data (l : List UInt8) : (B l).data.toList = l := by simp [B]
theorem B_toList (l : List UInt8) : (B l).toList = l := by rw [Lib.toList_data, B_data]
theorem B_of (s : ByteArray) : B s.data.toList = s := by simp [B]
theorem B_size (l : List UInt8) : (B l).size = l.length := by simp [B, ByteArray.size]
theorem B_inj {a b : List UInt8} (h : B a = B b) : a = b := by rw [← B_data a, h, B_data]
theorem ext_data {a b : ByteArray} (h : a.data.toList = b.data.toList) : a = b := by rw [← B_of a, h, B_of]
theorem B_append (a b : List UInt8) : B a ++ B b = B (a ++ b) := ext_data (by rw [ByteArray.data_append, Array.toList_append, B_data, B_data, B_data])
theorem data_append (a b : ByteArray) : (a ++ b).data.toList = a.data.toList ++ b.data.toList := by rw [ByteArray.data_append, Array.toList_append]
theorem B_extract (l : List UInt8) (a b : Nat) : (B l).extract a b = B ((l.drop a).take (b - a)) := ext_data (by rw [Lib.extract_data, B_data, B_data])
def isD (c : UInt8) : Prop := 48 ≤ c.toNat ∧ c.toNat ≤ 57
def dval (a : Nat) (l : List UInt8) : Nat := l.foldl (fun a c => 10 * a + (c.toNat - 48)) a
theorem dval_snoc (a : Nat) (l : List UInt8) (c : UInt8) : dval a (l ++ [c]) = 10 * dval a l + (c.toNat - 48) := by simp [dval, List.foldl_append]
theorem dval_mono (l : List UInt8) : ∀ a, a ≤ dval a l := by
 induction l with
 | nil => intro a; exact Nat.le_refl _
 | cons c l ih => intro a; exact Nat.le_trans (by omega) (ih (10 * a + (c.toNat - 48)))
theorem ofNat_toNat {u : Nat} (h : u < 10) : (UInt8.ofNat (48 + u)).toNat = 48 + u := by
 rw [UInt8.toNat_ofNat']; omega
theorem decDigits_isD (u : Nat) : ∀ c ∈ Lib.decDigits u, isD c := by
 induction u using Nat.strongRecOn with
 | _ u ih =>
  intro c hc
  rw [Lib.decDigits] at hc
  split at hc
  ·rename_i h
   simp only [List.mem_singleton] at hc
   subst hc
   unfold isD
   rw [ofNat_toNat h]; omega
  ·rename_i h
   rw [List.mem_append, List.mem_singleton] at hc
   rcases hc with hc | rfl
   ·exact ih (u / 10) (by omega) c hc
   ·unfold isD
    rw [ofNat_toNat (Nat.mod_lt _ (by omega))]; omega
theorem decDigits_ne (u : Nat) : Lib.decDigits u ≠ [] := by
 rw [Lib.decDigits]; split <;> simp
theorem decDigits_val (u : Nat) : dval 0 (Lib.decDigits u) = u := by
 induction u using Nat.strongRecOn with
 | _ u ih =>
  rw [Lib.decDigits]
  split
  ·rename_i h
   simp only [dval, List.foldl_cons, List.foldl_nil]
   rw [ofNat_toNat h]; omega
  ·rename_i h
   rw [dval_snoc, ih (u / 10) (by omega), ofNat_toNat (Nat.mod_lt _ (by omega))]; omega
theorem head?_app {α : Type} {l m : List α} (h : l ≠ []) : (l ++ m).head? = l.head? := by
 cases l with
 | nil => exact absurd rfl h
 | cons _ _ => rfl
theorem decDigits_head (u : Nat) (h : 10 ≤ u) : (Lib.decDigits u).head? ≠ some 48 := by
 induction u using Nat.strongRecOn with
 | _ u ih =>
  rw [Lib.decDigits, dif_neg (by omega)]
  rw [head?_app (decDigits_ne _)]
  by_cases h' : 10 ≤ u / 10
  ·exact ih _ (by omega) h'
  ·rw [Lib.decDigits, dif_pos (by omega)]
   simp only [List.head?_cons, ne_eq, Option.some.injEq]
   intro e
   have := congrArg UInt8.toNat e
   rw [ofNat_toNat (by omega)] at this
   simp at this
   omega
theorem ofNat_sub {c : UInt8} (h : isD c) : UInt8.ofNat (48 + (c.toNat - 48)) = c := by
 unfold isD at h
 apply UInt8.toNat.inj
 rw [UInt8.toNat_ofNat']
 omega
theorem snoc_cases {α : Type} (l : List α) (h : l ≠ []) : ∃ l' c, l = l' ++ [c] := ⟨l.dropLast, l.getLast h, (List.dropLast_concat_getLast h).symm⟩
theorem dval_pos {l : List UInt8} (hd : ∀ c ∈ l, isD c) (h0 : l ≠ []) (h : l.head? ≠ some 48) : 1 ≤ dval 0 l := by
 cases l with
 | nil => exact absurd rfl h0
 | cons c r =>
  have hc := hd c (by simp)
  unfold isD at hc
  have : c.toNat ≠ 48 := fun e => h (by simp only [List.head?_cons, Option.some.injEq]; exact UInt8.toNat.inj e)
  have hm := dval_mono r (10 * 0 + (c.toNat - 48))
  show 1 ≤ dval (10 * 0 + (c.toNat - 48)) r
  omega
/-- Digits without a zero at the front are a number's. -/
theorem decDigits_of (n : Nat) : ∀ l : List UInt8, l.length = n → (∀ c ∈ l, isD c) → l ≠ [] → (1 < l.length → l.head? ≠ some 48) → l = Lib.decDigits (dval 0 l) := by
 induction n with
 | zero => intro l hl _ h0; exact absurd (List.eq_nil_of_length_eq_zero hl) h0
 | succ n ih =>
  intro l hl hd h0 hz
  obtain ⟨l', c, rfl⟩ := snoc_cases l h0
  have hc := hd c (by simp)
  rw [dval_snoc]
  by_cases hl' : l' = []
  ·subst hl'
   unfold isD at hc
   rw [Lib.decDigits, dif_pos (by simp [dval]; omega)]
   simp only [dval, List.foldl_nil, List.nil_append]
   rw [show 10 * 0 + (c.toNat - 48) = c.toNat - 48 by omega, ofNat_sub (by unfold isD; exact hc)]
  ·have hz' : l'.head? ≠ some 48 := by
    have hlen : 1 < (l' ++ [c]).length := by
     have := List.length_pos_iff.2 hl'
     simp; omega
    have := hz hlen
    rwa [head?_app hl'] at this
   have hd' : ∀ x ∈ l', isD x := fun x hx => hd x (by simp [hx])
   have hp := dval_pos hd' hl' hz'
   have hcc := hc
   unfold isD at hcc
   rw [Lib.decDigits, dif_neg (by omega)]
   have e1 : (10 * dval 0 l' + (c.toNat - 48)) / 10 = dval 0 l' := by omega
   have e2 : (10 * dval 0 l' + (c.toNat - 48)) % 10 = c.toNat - 48 := by omega
   rw [e1, e2, ofNat_sub hc, ← ih l' (by simp at hl; exact hl) hd' hl' (fun _ => hz')]
def isI (n : Int) : Prop := -9223372036854775808 ≤ n ∧ n ≤ 9223372036854775807
theorem parse_digits (M : Nat) (hM : M ≤ 18446744073709551615) : ∀ (l : List UInt8) (a : Nat), (∀ c ∈ l, isD c) → dval a l ≤ M → Lib.parseUintM M a l = .ok (dval a l)
 | [], a, _, _ => rfl
 | c :: r, a, hd, hv => by
  have hc := hd c (by simp)
  unfold isD at hc
  have hm := dval_mono r (10 * a + (c.toNat - 48))
  have hv' : dval (10 * a + (c.toNat - 48)) r ≤ M := hv
  simp only [Lib.parseUintM]
  rw [if_pos hc, if_neg (by omega), if_neg (by omega), show a * 10 + (c.toNat - 48) = 10 * a + (c.toNat - 48) by omega]
  exact parse_digits M hM r _ (fun x hx => hd x (by simp [hx])) hv'
theorem parse_itoa (n : Int) (h : isI n) : Lib.parseIntB 64 (Lib.itoa n) = .ok n := by
 unfold isI at h
 unfold Lib.itoa
 have e64 : (2 : Nat) ^ 64 - 1 = 18446744073709551615 := rfl
 have e63 : (2 : Nat) ^ (64 - 1) = 9223372036854775808 := rfl
 split
 ·rename_i hn
  simp only [Lib.parseIntB]
  rw [if_pos (by right; rfl)]
  unfold Lib.parseUintB
  rw [if_neg (decDigits_ne _), parse_digits _ (by rw [e64]; exact Nat.le_refl _) _ _ (decDigits_isD _) (by rw [decDigits_val, e64]; omega), decDigits_val]
  simp only []
  have hneg : (45 : UInt8).toNat = 45 := rfl
  rw [if_neg (by intro hh; exact hh.1 hneg), if_neg (by intro hh; rw [e63] at hh; omega), if_pos hneg]
  congr 1
  omega
 ·rename_i hn
  cases hD : Lib.decDigits n.toNat with
  | nil => exact absurd hD (decDigits_ne _)
  | cons c r =>
   have hc : isD c := decDigits_isD n.toNat c (by rw [hD]; simp)
   unfold isD at hc
   simp only [Lib.parseIntB]
   rw [if_neg (by omega), ← hD]
   unfold Lib.parseUintB
   rw [if_neg (decDigits_ne _), parse_digits _ (by rw [e64]; exact Nat.le_refl _) _ _ (decDigits_isD _) (by rw [decDigits_val, e64]; omega), decDigits_val]
   simp only []
   rw [if_neg (by intro hh; rw [e63] at hh; omega), if_neg (by intro hh; omega), if_neg (by omega)]
   congr 1
   omega
/-- The number of a text, if there is one. -/
def pz (l : List UInt8) : Option Int := match Lib.parseIntB 64 l with
 | .ok v => if Lib.itoa v = l then some v else none
 | _ => none
theorem pz_itoa {n : Int} (h : isI n) : pz (Lib.itoa n) = some n := by
 unfold pz; rw [parse_itoa n h]; simp
theorem pz_some {l : List UInt8} {n : Int} (h : pz l = some n) : l = Lib.itoa n := by
 unfold pz at h
 split at h
 ·split at h
  ·rename_i e; injection h with h; subst h; exact e.symm
  ·exact absurd h (by simp)
 ·exact absurd h (by simp)
theorem itoa_inj {a b : Int} (ha : isI a) (hb : isI b) (h : Lib.itoa a = Lib.itoa b) : a = b := by
 have h1 := pz_itoa ha
 rw [h, pz_itoa hb] at h1
 injection h1 with h1
 exact h1.symm
theorem itoa_nat (n : Nat) : Lib.itoa (n : Int) = Lib.decDigits n := by
 unfold Lib.itoa; rw [if_neg (by omega)]; simp
theorem occAt_one (l : List UInt8) (c : UInt8) (i : Nat) : Lib.occAt l [c] i = (l[i]? == some c) := by
 have e : l[i]? = (l.drop i)[0]? := by simp
 unfold Lib.occAt
 rw [e]
 cases l.drop i with
 | nil => simp [List.isPrefixOf]
 | cons b t => simp only [List.isPrefixOf, Bool.and_true, List.getElem?_cons_zero]; simp only [Option.some_beq_some]; exact BEq.comm
theorem cut_hit (a b : List UInt8) (h : (58 : UInt8) ∉ a) : Lib.cut (a ++ 58 :: b) [58] = (a, b, true) := by
 have hi : Lib.index (a ++ 58 :: b) [58] = (a.length : Int) := by
  refine Lib.index_first (by simp) (by rw [occAt_one]; simp) ?_
  intro j hj
  rw [occAt_one, beq_eq_false_iff_ne]
  rw [List.getElem?_append_left hj]
  intro e
  exact h (List.mem_of_getElem? e)
 unfold Lib.cut
 rw [hi, if_pos (by omega)]
 simp
theorem cut_miss (l : List UInt8) (h : (58 : UInt8) ∉ l) : Lib.cut l [58] = (l, [], false) := by
 have hi : Lib.index l [58] = -1 := by
  refine Lib.index_none fun j _ => ?_
  rw [occAt_one, beq_eq_false_iff_ne]
  intro e
  exact h (List.mem_of_getElem? e)
 unfold Lib.cut
 rw [hi, if_neg (by omega)]
/-- What stands ahead of the first colon. -/
theorem colon (l : List UInt8) : ((58 : UInt8) ∉ l) ∨ ∃ a b, l = a ++ 58 :: b ∧ (58 : UInt8) ∉ a := by
 induction l with
 | nil => exact .inl (by simp)
 | cons c l ih =>
  by_cases hc : c = 58
  ·exact .inr ⟨[], l, by simp [hc], by simp⟩
  ·rcases ih with h | ⟨a, b, rfl, h⟩
   ·exact .inl (by simp only [List.mem_cons, not_or]; exact ⟨fun e => hc e.symm, h⟩)
   ·exact .inr ⟨c :: a, b, rfl, by simp only [List.mem_cons, not_or]; exact ⟨fun e => hc e.symm, h⟩⟩
def strand (x : List UInt8) : List UInt8 := Lib.itoa (x.length : Int) ++ 58 :: (x ++ [44])
def firstL (l : List UInt8) : Option (List UInt8 × List UInt8) :=
 match pz (Lib.cut (l.take 1048576) [58]).1 with
 | some n => if (Lib.cut (l.take 1048576) [58]).2.2 = true ∧ 0 ≤ n ∧ (Lib.cut (l.take 1048576) [58]).2.1[n.toNat]? = some 44 then
  some ((Lib.cut (l.take 1048576) [58]).2.1.take n.toNat, l.drop ((Lib.cut (l.take 1048576) [58]).1.length + 1 + n.toNat + 1)) else none
 | none => none
theorem itoa_no58 (n : Nat) : (58 : UInt8) ∉ Lib.itoa (n : Int) := by
 rw [itoa_nat]
 intro h
 have := decDigits_isD n 58 h
 unfold isD at this
 have e : (58 : UInt8).toNat = 58 := rfl
 omega
theorem strand_length (x : List UInt8) : (strand x).length = (Lib.itoa (x.length : Int)).length + x.length + 2 := by
 simp [strand]; omega
theorem firstL_strand (x r : List UInt8) (h : (strand x).length ≤ 1048576) : firstL (strand x ++ r) = some (x, r) := by
 have hl := strand_length x
 have ht : (strand x ++ r).take 1048576 = Lib.itoa (x.length : Int) ++ 58 :: (x ++ [44] ++ r.take (1048576 - (strand x).length)) := by
  rw [List.take_append, List.take_of_length_le h]
  simp [strand]
 unfold firstL
 rw [ht, cut_hit _ _ (itoa_no58 _)]
 simp only [pz_itoa (n := (x.length : Int)) (by unfold isI; omega)]
 rw [if_pos ⟨by trivial, by omega, by simp⟩]
 simp only [Int.toNat_natCast, Option.some.injEq, Prod.mk.injEq]
 constructor
 ·simp
 ·rw [show (Lib.itoa (x.length : Int)).length + 1 + x.length + 1 = (strand x).length by omega]
  simp
theorem firstL_some {l x r : List UInt8} (h : firstL l = some (x, r)) : l = strand x ++ r ∧ (strand x).length ≤ 1048576 := by
 unfold firstL at h
 rcases colon (l.take 1048576) with hn | ⟨a, b, hab, hna⟩
 ·rw [cut_miss _ hn] at h
  split at h
  ·simp at h
  ·exact absurd h (by simp)
 ·rw [hab, cut_hit _ _ hna] at h
  simp only at h
  split at h
  ·rename_i n hp
   split at h
   ·rename_i hc
    obtain ⟨_, h0, h44⟩ := hc
    simp only [Option.some.injEq, Prod.mk.injEq] at h
    obtain ⟨hx, hr⟩ := h
    obtain ⟨m, rfl⟩ : ∃ m : Nat, n = m := ⟨n.toNat, by omega⟩
    simp only [Int.toNat_natCast] at h44 hx hr
    have ha := pz_some hp
    obtain ⟨hm, h44'⟩ := List.getElem?_eq_some_iff.1 h44
    have hxl : x.length = m := by rw [← hx, List.length_take]; omega
    have hb : b = x ++ 44 :: b.drop (m + 1) := by
     rw [← hx]
     conv => lhs; rw [← List.take_append_drop m b, List.drop_eq_getElem_cons hm, h44']
    have hs : strand x = a ++ 58 :: (x ++ [44]) := by unfold strand; rw [hxl, ← ha]
    have htl : l.take 1048576 = strand x ++ b.drop (m + 1) := by
     rw [hab, hs]
     conv => lhs; rw [hb]
     simp
    have hlen : (strand x).length = a.length + 1 + m + 1 := by rw [hs]; simp [hxl]; omega
    have hle : (strand x).length ≤ (l.take 1048576).length := by rw [htl, List.length_append]; omega
    rw [List.length_take] at hle
    refine ⟨?_, by omega⟩
    rw [← hr, ← hlen]
    conv => lhs; rw [← List.take_append_drop (strand x).length l]
    congr 1
    have := congrArg (List.take (strand x).length) htl
    rw [List.take_take, List.take_left, Nat.min_eq_left (by omega)] at this
    exact this
   ·exact absurd h (by simp)
  ·exact absurd h (by simp)
def tieD (ss : List (List UInt8)) : List UInt8 := (ss.map strand).flatten
theorem tie_cons (x : List UInt8) (ss : List (List UInt8)) : tieD (x :: ss) = strand x ++ tieD ss := rfl
theorem tie_append (a b : List (List UInt8)) : tieD (a ++ b) = tieD a ++ tieD b := by simp [tieD]
def untieF : Nat → List UInt8 → Option (List (List UInt8))
 | 0, _ => none
 | k + 1, l => if l = [] then some [] else match firstL l with
  | some (x, r) => (untieF k r).map (x :: ·)
  | none => none
theorem strand_ne (x : List UInt8) : strand x ≠ [] := by intro h; have := strand_length x; rw [h] at this; simp at this
theorem untieF_tie : ∀ (ss : List (List UInt8)) (k : Nat), ss.length < k → (tieD ss).length ≤ 1048576 → untieF k (tieD ss) = some ss
 | [], k + 1, _, _ => by simp [untieF, tieD]
 | x :: ss, k + 1, hk, hl => by
  rw [tie_cons, List.length_append] at hl
  show untieF (k + 1) (strand x ++ tieD ss) = _
  simp only [untieF]
  rw [if_neg (by simp [strand_ne]), firstL_strand x _ (by omega)]
  simp only [untieF_tie ss k (by simp at hk; omega) (by omega), Option.map_some]
 | [], 0, hk, _ => by simp at hk
 | _ :: _, 0, hk, _ => by simp at hk
theorem untieF_some : ∀ (k : Nat) (l : List UInt8) (ss : List (List UInt8)), untieF k l = some ss → l = tieD ss
 | 0, _, _, h => by simp [untieF] at h
 | k + 1, l, ss, h => by
  simp only [untieF] at h
  split at h
  ·rename_i hl
   injection h with h
   subst h; exact hl
  ·split at h
   ·rename_i x r hf
    rw [Option.map_eq_some_iff] at h
    obtain ⟨tt, ht, rfl⟩ := h
    rw [tie_cons, ← untieF_some k r tt ht]
    exact (firstL_some hf).1
   ·exact absurd h (by simp)
theorem tie_count (ss : List (List UInt8)) : ss.length ≤ (tieD ss).length := by
 induction ss with
 | nil => simp
 | cons x ss ih => rw [tie_cons, List.length_append, List.length_cons, strand_length]; omega
def untieL (l : List UInt8) : Option (List (List UInt8)) :=
 if l.length ≤ 1048576 then (match untieF (l.length + 1) l with | some ss => if ss.length ≤ 4096 then some ss else none | none => none) else none
theorem untieL_tie (ss : List (List UInt8)) (h1 : ss.length ≤ 4096) (h2 : (tieD ss).length ≤ 1048576) : untieL (tieD ss) = some ss := by
 unfold untieL
 rw [if_pos h2, untieF_tie ss _ (by have := tie_count ss; omega) h2]
 simp [h1]
theorem untieL_some {l : List UInt8} {ss : List (List UInt8)} (h : untieL l = some ss) : l = tieD ss ∧ ss.length ≤ 4096 ∧ l.length ≤ 1048576 := by
 unfold untieL at h
 split at h
 ·rename_i hl
  split at h
  ·rename_i tt ht
   split at h
   ·rename_i hc
    injection h with h
    subst h
    exact ⟨untieF_some _ _ _ ht, hc, hl⟩
   ·exact absurd h (by simp)
  ·exact absurd h (by simp)
 ·exact absurd h (by simp)
theorem tie_inj : ∀ {a b : List (List UInt8)}, (tieD a).length ≤ 1048576 → tieD a = tieD b → a = b
 | [], [], _, _ => rfl
 | [], y :: b, _, h => by rw [tie_cons] at h; exact absurd h.symm (by simp [tieD, strand_ne])
 | x :: a, [], _, h => by rw [tie_cons] at h; exact absurd h (by simp [tieD, strand_ne])
 | x :: a, y :: b, hl, h => by
  rw [tie_cons, tie_cons] at h
  rw [tie_cons, List.length_append] at hl
  have h1 := firstL_strand x (tieD a) (by omega)
  have hl2 := congrArg List.length h
  rw [List.length_append, List.length_append] at hl2
  have h2 := firstL_strand y (tieD b) (by omega)
  rw [h, h2] at h1
  injection h1 with h1
  injection h1 with hx ht
  rw [hx, tie_inj (by omega) ht.symm]
theorem dval_lt (l : List UInt8) (hd : ∀ c ∈ l, isD c) : dval 0 l < 10 ^ l.length := by
 have key : ∀ (n : Nat) (l : List UInt8), l.length = n → (∀ c ∈ l, isD c) → dval 0 l < 10 ^ n := by
  intro n
  induction n with
  | zero => intro l hl _; rw [List.eq_nil_of_length_eq_zero hl]; simp [dval]
  | succ n ih =>
   intro l hl hd
   obtain ⟨l', c, rfl⟩ := snoc_cases l (by intro e; rw [e] at hl; simp at hl)
   have h1 := ih l' (by simpa using hl) (fun x hx => hd x (by simp [hx]))
   have h2 := hd c (by simp)
   unfold isD at h2
   rw [dval_snoc, Nat.pow_succ]
   omega
 exact key _ l rfl hd
theorem nDigits_le7 (n : Nat) (h : n ≤ 1048576) : (Lib.decDigits n).length ≤ 7 := by
 rw [Lib.decDigits_length]
 have := Lib.nDigits_unique
 by_cases h0 : Lib.nDigits n ≤ 7
 ·exact h0
 ·have h1 : 10 ^ 7 ≤ n := by
   have key : ∀ (u : Nat), 10 ^ (Lib.nDigits u - 1) ≤ u ∨ u = 0 := by
    intro u
    induction u using Nat.strongRecOn with
    | _ u ih =>
     by_cases hu : u < 10
     ·rw [Lib.nDigits_small hu]; omega
     ·rw [Lib.nDigits_big hu]
      have hp := Lib.nDigits_pos (u / 10)
      rcases ih (u / 10) (by omega) with h | h
      ·left
       obtain ⟨j, hj⟩ : ∃ j, Lib.nDigits (u / 10) = j + 1 := ⟨Lib.nDigits (u / 10) - 1, by omega⟩
       rw [hj] at h ⊢
       simp only [Nat.add_sub_cancel] at h ⊢
       rw [Nat.pow_succ]; omega
      ·omega
   rcases key n with h | h
   ·exact Nat.le_trans (Nat.pow_le_pow_right (by omega) (by omega)) h
   ·subst h; rw [Lib.nDigits_small (by omega)] at h0; omega
  omega
theorem ref_first (l : List UInt8) (k : Nat) (hk : k ≤ l.length) (hk8 : k ≤ 8) (hd : ∀ c ∈ l.take k, isD c) (hstop : ∀ c, l[k]? = some c → k < 8 → ¬ isD c) :
 firstL l = if k ≠ 0 ∧ l[k]? = some 58 ∧ ¬ (1 < k ∧ l.head? = some 48) ∧ dval 0 (l.take k) + k + 2 ≤ l.length ∧ dval 0 (l.take k) + k + 2 ≤ 1048576 ∧ l[k + 1 + dval 0 (l.take k)]? = some 44
  then some ((l.drop (k + 1)).take (dval 0 (l.take k)), l.drop (k + 2 + dval 0 (l.take k))) else none := by
 generalize hn : dval 0 (l.take k) = n
 split
 ·rename_i hc
  obtain ⟨h0, h58, hz, hl1, hl2, h44⟩ := hc
  have hD : l.take k = Lib.decDigits n := by
   rw [← hn]
   refine decDigits_of _ _ rfl hd (by intro e; have := congrArg List.length e; rw [List.length_take, List.length_nil] at this; omega) ?_
   intro hlen
   rw [List.length_take] at hlen
   rw [List.head?_take, if_neg h0]
   intro e
   exact hz ⟨by omega, e⟩
  have hx : ((l.drop (k + 1)).take n).length = n := by rw [List.length_take, List.length_drop]; omega
  have hs : l = strand ((l.drop (k + 1)).take n) ++ l.drop (k + 2 + n) := by
   unfold strand
   rw [hx, itoa_nat, ← hD]
   conv => lhs; rw [← List.take_append_drop k l]
   rw [List.append_assoc]
   congr 1
   obtain ⟨hk', e58⟩ := List.getElem?_eq_some_iff.1 h58
   rw [List.drop_eq_getElem_cons hk', e58, List.cons_append]
   congr 1
   conv => lhs; rw [← List.take_append_drop n (l.drop (k + 1))]
   rw [List.append_assoc]
   congr 1
   rw [List.drop_drop]
   obtain ⟨hk2, e44⟩ := List.getElem?_eq_some_iff.1 h44
   rw [List.drop_eq_getElem_cons hk2, e44]
   simp only [List.cons_append, List.nil_append]
   congr 2
   omega
  conv => lhs; rw [hs]
  refine firstL_strand _ _ ?_
  rw [strand_length, hx, itoa_nat, ← hD, List.length_take]
  omega
 ·rename_i hc
  cases hf : firstL l with
  | none => rfl
  | some p =>
   obtain ⟨x, r⟩ := p
   exfalso
   apply hc
   obtain ⟨hl, hlen⟩ := firstL_some hf
   have hsl := strand_length x
   have hm := nDigits_le7 x.length (by omega)
   have hno := itoa_no58 x.length
   rw [itoa_nat] at hsl hno
   have hl' : l = Lib.decDigits x.length ++ 58 :: (x ++ 44 :: r) := by rw [hl]; unfold strand; rw [itoa_nat]; simp
   have hk1 : k = (Lib.decDigits x.length).length := by
    rcases Nat.lt_trichotomy k (Lib.decDigits x.length).length with h | h | h
    ·exfalso
     refine hstop ((Lib.decDigits x.length)[k]) ?_ (by omega) (decDigits_isD _ _ (List.getElem_mem h))
     rw [hl', List.getElem?_append_left h, List.getElem?_eq_getElem h]
    ·exact h
    ·exfalso
     have h58 : (58 : UInt8) ∈ l.take k := by
      rw [hl', List.take_append, List.take_of_length_le (by omega)]
      rw [show k - (Lib.decDigits x.length).length = (k - (Lib.decDigits x.length).length - 1) + 1 by omega, List.take_succ_cons]
      simp
     have := hd 58 h58
     unfold isD at this
     have e : (58 : UInt8).toNat = 58 := rfl
     omega
   have ht : l.take k = Lib.decDigits x.length := by rw [hk1, hl']; simp
   have hnx : n = x.length := by rw [← hn, ht, decDigits_val]
   subst hnx
   have hll : l.length = k + 1 + x.length + 1 + r.length := by rw [hl', hk1]; simp; omega
   have hne := decDigits_ne x.length
   have hpos := List.length_pos_iff.2 hne
   refine ⟨by omega, ?_, ?_, by omega, by omega, ?_⟩
   ·rw [hk1, hl']; simp
   ·rintro ⟨h1, h2⟩
    rw [hl', head?_app hne] at h2
    by_cases h10 : 10 ≤ x.length
    ·exact decDigits_head _ h10 h2
    ·rw [hk1, Lib.decDigits, dif_pos (by omega)] at h1; simp at h1
   ·rw [hl', hk1, List.getElem?_append_right (by omega), show (Lib.decDigits x.length).length + 1 + x.length - (Lib.decDigits x.length).length = x.length + 1 by omega]
    simp
end Go.Proofs.YtjfhcijjjadhbaaDoor.A
end
section
namespace Go.Proofs.YtjfhcijjjadhbaaDoor.V
open Go.RowKit Go.Proofs.YtjfhcijjjadhbaaDoorW.PrintWords Go.Proofs.YtjfhcijjjadhbaaDoorW.PrintLast Go.Proofs.YtjfhcijjjadhbaaDoorW.PrintMore Go.Proofs.YtjfhcijjjadhbaaDoor.A
theorem Ev.shift {α : Type} {g : Nat → Option α} {r : α} (h : Ev (fun k => g (k + 1)) r) : Ev g r := by
 obtain ⟨K, hK⟩ := h
 refine ⟨K + 1, fun k hk => ?_⟩
 obtain ⟨m, rfl⟩ : ∃ m, k = m + 1 := ⟨k - 1, by omega⟩
 exact hK m (by omega)
theorem Ev.ite {α : Type} {c : Prop} [Decidable c] {f g : Nat → Option α} {r : α} (h1 : c → Ev f r) (h2 : ¬ c → Ev g r) : Ev (fun k => if c then f k else g k) r := by
 by_cases h : c
 ·obtain ⟨K, hK⟩ := h1 h; exact ⟨K, fun k hk => by simp only; rw [if_pos h]; exact hK k hk⟩
 ·obtain ⟨K, hK⟩ := h2 h; exact ⟨K, fun k hk => by simp only; rw [if_neg h]; exact hK k hk⟩
/-- A loop whose index runs up to n, by steps of one. -/
theorem Ev.upto {σ R : Type} {F : Nat → σ → Int → Option R} {n : Nat} {G : σ → Nat → R} {I : σ → Nat → Prop}
 (step : ∀ s i, i < n → I s i → (∀ s', I s' (i + 1) → Ev (fun k => F k s' ((i + 1 : Nat) : Int)) (G s' (i + 1))) → Ev (fun k => F (k + 1) s (i : Int)) (G s i))
 (stop : ∀ s, I s n → Ev (fun k => F (k + 1) s (n : Int)) (G s n)) :
 ∀ (i : Nat), i ≤ n → ∀ s, I s i → Ev (fun k => F k s (i : Int)) (G s i) := by
 have key : ∀ d i, n - i = d → i ≤ n → ∀ s, I s i → Ev (fun k => F k s (i : Int)) (G s i) := by
  intro d
  induction d with
  | zero =>
   intro i hd hi s hs
   have : i = n := by omega
   subst this
   exact Ev.shift (stop s hs)
  | succ d ih =>
   intro i hd hi s hs
   exact Ev.shift (step s i (by omega) hs (fun s' hs' => ih (i + 1) (by omega) (by omega) s' hs'))
 exact fun i hi => key (n - i) i rfl hi
theorem wrap_in {n : Int} (h0 : -9223372036854775808 ≤ n) (h1 : n ≤ 9223372036854775807) : wrap64 n = n := by unfold wrap64; omega
theorem wrap_nat {n : Nat} (h : n ≤ 9223372036854775806) : wrap64 ((n : Int) + 1) = ((n + 1 : Nat) : Int) := by rw [wrap_in (by omega) (by omega)]; rfl
theorem wrap_nat2 {n : Nat} (h : n ≤ 9223372036854775805) : wrap64 ((n : Int) + 2) = ((n + 2 : Nat) : Int) := by rw [wrap_in (by omega) (by omega)]; rfl
theorem nn (n : Nat) : (0 : Int) ≤ (n : Int) := by omega
theorem lt_cast {a b : Nat} (h : a < b) : (a : Int) < (b : Int) := by omega
theorem nlt_cast {a b : Nat} (h : ¬ a < b) : ¬ (a : Int) < (b : Int) := by omega
theorem toList_inj {a b : ByteArray} : a.toList = b.toList ↔ a = b :=
 ⟨fun h => ext_data (by rw [← Lib.toList_data, ← Lib.toList_data, h]), fun h => by rw [h]⟩
theorem toList_nil {a : ByteArray} : a.toList = ([] : List UInt8) ↔ a.data.toList = [] := by rw [Lib.toList_data]
end Go.Proofs.YtjfhcijjjadhbaaDoor.V
end
section
namespace Go.Proofs.YtjfhcijjjadhbaaDoor.V
open Go.RowKit Go.Proofs.YtjfhcijjjadhbaaDoorW.PrintWords Go.Proofs.YtjfhcijjjadhbaaDoorW.PrintLast Go.Proofs.YtjfhcijjjadhbaaDoorW.PrintMore Go.Proofs.YtjfhcijjjadhbaaDoor.P Go.Proofs.YtjfhcijjjadhbaaDoor.K Go.Proofs.YtjfhcijjjadhbaaDoor.A
theorem bt_eq (s : ByteArray) (n : Nat) (c : UInt8) (h : s.data.toList[n]? = some c) : bt s (n : Int) = (c.toNat : Int) := by
 obtain ⟨hl, hc⟩ := List.getElem?_eq_some_iff.1 h
 rw [← Lib.size_eq] at hl
 unfold bt
 rw [dif_pos (by simpa using hl)]
 have : s[n] = c := hc
 simp only [Int.toNat_natCast]
 rw [this]
theorem bt_lt {s : ByteArray} {n : Nat} (h : n < s.size) : s.data.toList[n]? = some s[n] := by
 rw [List.getElem?_eq_getElem (by rw [← Lib.size_eq]; exact h)]; rfl
theorem bt_is (s : ByteArray) (n : Nat) (c : UInt8) (h : n < s.size) : bt s (n : Int) = (c.toNat : Int) ↔ s.data.toList[n]? = some c := by
 rw [bt_eq s n s[n] (bt_lt h), bt_lt h]
 constructor
 ·intro e; congr 1; exact UInt8.toNat.inj (by omega)
 ·intro e; injection e with e; rw [e]
theorem num_eq {n : Int} (h : isI n) : knot_Num.f n = some (B (Lib.itoa n)) := by
 unfold knot_Num.f; rw [if_pos h.1, if_pos h.2]; rfl
theorem numB_eq (n : Int) : numB n = B (Lib.itoa n) := rfl
theorem int_eq {s : ByteArray} (h : s.size ≤ 281474976710656) : knot_Int.f s = some (match pz s.data.toList with | some n => (n, 0) | none => (0, 10)) := by
 unfold knot_Int.f
 rw [if_pos h]
 unfold pz
 cases hp : Lib.parseIntB 64 s.data.toList
 case ok v =>
  simp only [Option.some.injEq]
  by_cases e : numB v = s
  ·rw [if_pos e, if_pos (by rw [← e, numB_eq, B_data])]
  ·rw [if_neg e, if_neg (by intro h; apply e; rw [numB_eq, h, B_of])]
 all_goals rfl
theorem tieL_eq (l : List ByteArray) : tieL l = tieD (l.map fun s => s.data.toList) := by
 unfold tieL tieD
 rw [List.map_map]
 congr 1
 refine List.map_congr_left fun s _ => ?_
 simp [strandL, strand, ← Lib.size_eq]
theorem tie_eq {l : List ByteArray} (h : (tieD (l.map fun s => s.data.toList)).length ≤ 140737488355328) : knot_Tie.f l = some (B (tieD (l.map fun s => s.data.toList))) := by
 unfold knot_Tie.f
 rw [tieL_eq, if_pos h]; rfl
def firstR (s : ByteArray) : ByteArray × ByteArray × Int := match firstL s.data.toList with
 | some (x, r) => (B x, B r, 0)
 | none => (⟨#[]⟩, s, 10)
theorem take_data (s : ByteArray) (n : Nat) : (s.extract 0 n).data.toList = s.data.toList.take n := by rw [Lib.extract_data]; simp
theorem first_eq {s : ByteArray} (h : s.size ≤ 140737488355328) : knot_First.f s = some (firstR s) := by
 have hmn : mn (s.size : Int) 1048576 = ((min s.size 1048576 : Nat) : Int) := by unfold mn; split <;> omega
 have hz := Lib.size_eq s
 unfold knot_First.f firstR firstL
 rw [hmn]
 clear hmn
 obtain ⟨M, hM⟩ : ∃ M : Nat, M = 1048576 := ⟨_, rfl⟩
 rw [← hM]
 have hM1 : M ≤ 1048576 := by omega
 clear hM
 rw [if_pos (by omega), if_pos (by omega), Int.toNat_natCast]
 have hdt : (s.extract 0 (min s.size M)).data.toList = s.data.toList.take M := by
  rw [take_data, hz]
  exact List.take_eq_take_iff.2 (by omega)
 have hsz : (s.extract 0 (min s.size M)).size ≤ 1048576 := by rw [Lib.size_eq, hdt, List.length_take]; omega
 have hcut : strings_Cut.f (s.extract 0 (min s.size M)) (⟨#[58]⟩ : ByteArray) = some (B (Lib.cut (s.data.toList.take M) [58]).1, B (Lib.cut (s.data.toList.take M) [58]).2.1, (Lib.cut (s.data.toList.take M) [58]).2.2) := by
  unfold strings_Cut.f
  rw [if_pos (by omega), hdt]; rfl
 rw [hcut]
 simp only [Option.bind_some]
 have hlt : (s.data.toList.take M).length ≤ 1048576 := by rw [List.length_take]; omega
 have hc1 : (Lib.cut (s.data.toList.take M) [58]).1.length ≤ 1048576 ∧ ((Lib.cut (s.data.toList.take M) [58]).2.2 = true → (Lib.cut (s.data.toList.take M) [58]).1.length + 1 + (Lib.cut (s.data.toList.take M) [58]).2.1.length = (s.data.toList.take M).length) := by
  rcases colon (s.data.toList.take M) with hn | ⟨a, b, hab, hna⟩
  ·rw [cut_miss _ hn]; exact ⟨hlt, fun h => by cases h⟩
  ·rw [hab] at hlt ⊢; rw [cut_hit _ _ hna]
   simp only [List.length_append, List.length_cons] at hlt ⊢
   exact ⟨by omega, fun _ => by omega⟩
 generalize Lib.cut (s.data.toList.take M) [58] = c at hc1
 obtain ⟨c1, c2, c3⟩ := c
 obtain ⟨hl1, hl2⟩ := hc1
 simp only at hl1 hl2 ⊢
 have htl : (s.data.toList.take M).length ≤ s.data.toList.length := by rw [List.length_take]; omega
 rw [int_eq (by rw [B_size]; omega), B_data]
 simp only [Option.bind_some]
 cases hp : pz c1 with
 | none => simp only; split <;> rfl
 | some n =>
  simp only [B_size]
  by_cases h3 : c3 = true
  ·rw [if_pos h3, if_pos trivial]
   have hl2 := hl2 h3
   by_cases hn : n < 0
   ·rw [if_pos hn]
    have : ¬ (c3 = true ∧ 0 ≤ n ∧ c2[n.toNat]? = some 44) := by omega
    simp only [if_neg this]
   ·rw [if_neg hn]
    obtain ⟨m, rfl⟩ : ∃ m : Nat, n = m := ⟨n.toNat, by omega⟩
    simp only [Int.toNat_natCast]
    by_cases hm : m < c2.length
    ·rw [if_neg (by omega), if_pos (by omega), if_pos (by omega)]
     have hbt := bt_is (B c2) m 44 (by rw [B_size]; exact hm)
     rw [B_data] at hbt
     have e44 : ((44 : UInt8).toNat : Int) = 44 := rfl
     rw [e44] at hbt
     have a1 : (m : Int) ≤ (c2.length : Int) := by omega
     have a2 : (0 : Int) ≤ ((c1.length + 1 + m + 1 : Nat) : Int) := by omega
     have a3 : ((c1.length + 1 + m + 1 : Nat) : Int) ≤ (s.size : Int) := by omega
     have hw : wrap64 (wrap64 (wrap64 ((c1.length : Int) + 1) + m) + 1) = ((c1.length + 1 + m + 1 : Nat) : Int) := by
      rw [wrap_in (n := (c1.length : Int) + 1) (by omega) (by omega), wrap_in (n := (c1.length : Int) + 1 + m) (by omega) (by omega), wrap_in (by omega) (by omega)]; omega
     by_cases h44 : c2[m]? = some 44
     ·rw [if_pos (hbt.2 h44), if_pos a1, hw, if_pos a2, if_pos a3]
      have hcd : c3 = true ∧ 0 ≤ (m : Int) ∧ c2[m]? = some 44 := ⟨h3, by omega, h44⟩
      simp only [if_pos hcd, Int.toNat_natCast]
      have e1 : (B c2).extract 0 m = B (c2.take m) := ext_data (by rw [take_data, B_data, B_data])
      have e2 : s.extract (c1.length + 1 + m + 1) s.size = B (s.data.toList.drop (c1.length + 1 + m + 1)) :=
       ext_data (by rw [Lib.extract_data, B_data]; exact List.take_of_length_le (by rw [List.length_drop]; omega))
      rw [e1, e2]
     ·rw [if_neg (fun h => h44 (hbt.1 h))]
      have : ¬ (c3 = true ∧ 0 ≤ (m : Int) ∧ c2[m]? = some 44) := fun h => h44 h.2.2
      simp only [if_neg this]
    ·rw [if_pos (by omega)]
     have : ¬ (c3 = true ∧ 0 ≤ (m : Int) ∧ c2[m]? = some 44) := by
      intro h
      have := (List.getElem?_eq_some_iff.1 h.2.2).1
      omega
     simp only [if_neg this]
  ·rw [if_neg h3]
   have : ¬ (c3 = true ∧ 0 ≤ n ∧ c2[n.toNat]? = some 44) := fun h => h3 h.1
   simp only [if_neg this]
/-- What Untie answers. -/
def untieA (acc : List ByteArray) (o : Option (List (List UInt8))) : List ByteArray × Int :=
 match o with | some ss => if acc.length + ss.length ≤ 4096 then (acc ++ ss.map B, 0) else ([], 10) | none => ([], 10)
theorem B_nil_data (s : ByteArray) : s.toList = ([] : List UInt8) ↔ s.data.toList = [] := by rw [Lib.toList_data]
theorem firstR_some {s : ByteArray} {x r : List UInt8} (h : firstL s.data.toList = some (x, r)) : firstR s = (B x, B r, 0) := by unfold firstR; rw [h]
theorem firstR_none {s : ByteArray} (h : firstL s.data.toList = none) : firstR s = (⟨#[]⟩, s, 10) := by unfold firstR; rw [h]
theorem untieA_step (acc : List ByteArray) (x : List UInt8) (o : Option (List (List UInt8))) (h : acc.length < 4096) : untieA (acc ++ [B x]) o = untieA acc (o.map (x :: ·)) := by
 cases o with
 | none => rfl
 | some ss =>
  simp only [untieA, Option.map_some, List.length_append, List.length_cons, List.length_nil]
  by_cases hc : acc.length + (0 + 1) + ss.length ≤ 4096
  ·rw [if_pos hc, if_pos (by omega)]; simp
  ·rw [if_neg hc, if_neg (by omega)]
theorem untieA_full (acc : List ByteArray) (x : List UInt8) (o : Option (List (List UInt8))) (h : 4096 ≤ acc.length) : untieA acc (o.map (x :: ·)) = ([], 10) := by
 cases o with
 | none => rfl
 | some ss => simp only [untieA, Option.map_some, List.length_cons]; rw [if_neg (by omega)]
theorem untie_loop (n : Nat) : ∀ (s : ByteArray) (acc : List ByteArray), s.size < n → s.size ≤ 1048576 → acc.length ≤ 4096 →
 Ev (fun k => knot_Untie.l0 k s acc) (untieA acc (untieF n s.data.toList)) := by
 induction n with
 | zero => intro s acc h; omega
 | succ n ih =>
  intro s acc hs hm ha
  refine Ev.step (f := fun k => if s.toList = ([] : List UInt8) then (some (acc, 0)) else ((knot_First.f s).bind fun bt106 => (if bt106.2.2 = 0 then (if (acc.length : Int) ≥ 4096 then (some (([] : List ByteArray), 10)) else (if acc.length < 8796093022208 then (knot_Untie.l0 k bt106.2.1 (acc ++ [bt106.1])) else (none))) else (some (([] : List ByteArray), 10))))) (fun k => rfl) ?_
  refine Ev.ite (fun h0 => ?_) (fun h0 => ?_)
  ·rw [B_nil_data] at h0
   have : untieA acc (untieF (n + 1) s.data.toList) = (acc, 0) := by
    simp only [untieF]; rw [if_pos h0]; simp [untieA, ha]
   rw [this]; exact Ev.now _
  ·rw [B_nil_data] at h0
   rw [first_eq (by omega)]
   simp only [Option.bind_some]
   cases hf : firstL s.data.toList with
   | none =>
    rw [firstR_none hf]
    have : untieF (n + 1) s.data.toList = none := by simp only [untieF]; rw [if_neg h0, hf]
    rw [this]
    exact Ev.now _
   | some p =>
    obtain ⟨x, r⟩ := p
    rw [firstR_some hf]
    have hu : untieF (n + 1) s.data.toList = (untieF n r).map (x :: ·) := by simp only [untieF]; rw [if_neg h0, hf]
    rw [hu]
    obtain ⟨hl, _⟩ := firstL_some hf
    have hlen := congrArg List.length hl
    rw [List.length_append, ← Lib.size_eq, strand_length] at hlen
    refine Ev.ite (fun _ => Ev.ite (fun hfull => ?_) (fun hroom => Ev.ite (fun _ => ?_) (fun h => absurd h (by omega)))) (fun h => absurd rfl h)
    ·rw [untieA_full _ _ _ (by omega)]; exact Ev.now _
    ·rw [← untieA_step _ _ _ (by omega)]
     have := ih (B r) (acc ++ [B x]) (by rw [B_size]; omega) (by rw [B_size]; omega) (by simp; omega)
     rw [B_data] at this
     exact this
/-- knot.Untie. -/
def untieR (s : ByteArray) : List ByteArray × Int := match untieL s.data.toList with | some ss => (ss.map B, 0) | none => ([], 10)
theorem untieR_eq (s : ByteArray) (h : s.size ≤ 1048576) : untieR s = untieA [] (untieF (s.size + 1) s.data.toList) := by
 unfold untieR untieL untieA
 rw [← Lib.size_eq, if_pos h]
 cases untieF (s.size + 1) s.data.toList with
 | none => rfl
 | some ss =>
  simp only [List.length_nil, Nat.zero_add, List.nil_append]
  by_cases hc : ss.length ≤ 4096
  ·rw [if_pos hc, if_pos hc]
  ·rw [if_neg hc, if_neg hc]
theorem untieR_long (s : ByteArray) (h : ¬ s.size ≤ 1048576) : untieR s = ([], 10) := by
 unfold untieR untieL; rw [← Lib.size_eq, if_neg h]
theorem untie_ev (s : ByteArray) : Ev (fun k => knot_Untie.f k s) (untieR s) := by
 refine Ev.ite (fun h => ?_) (fun h => ?_)
 ·rw [untieR_long s (by omega)]; exact Ev.now _
 ·rw [untieR_eq s (by omega)]
  exact untie_loop _ s [] (Nat.lt_succ_self _) (by omega) (by simp)
theorem isI_wf {n : Int} (h : (Lit.int .i64 n).wf = true) : isI n := by
 exact bounds_i64 h
theorem nDigits_le (k u : Nat) (hk : 1 ≤ k) (h : u < 10 ^ k) : Lib.nDigits u ≤ k := by
 induction k generalizing u with
 | zero => omega
 | succ k ih =>
  by_cases hu : u < 10
  ·rw [Lib.nDigits_small hu]; omega
  ·rw [Lib.nDigits_big hu]
   have hk0 : 1 ≤ k := by
    rcases Nat.eq_zero_or_pos k with h0 | h0
    ·subst h0; omega
    ·exact h0
   have := ih (u / 10) hk0 (by rw [Nat.pow_succ] at h; omega)
   omega
theorem itoa_le20 {n : Int} (h : isI n) : (Lib.itoa n).length ≤ 20 := by
 unfold isI at h
 unfold Lib.itoa
 split
 ·rw [List.length_cons, Lib.decDigits_length]
  have := nDigits_le 19 n.natAbs (by omega) (by omega)
  omega
 ·rw [Lib.decDigits_length]
  have := nDigits_le 19 n.toNat (by omega) (by omega)
  omega
theorem itoa_le (n : Nat) (h : n ≤ 9223372036854775807) : (Lib.itoa (n : Int)).length ≤ 20 := itoa_le20 ⟨by omega, by omega⟩
theorem pz_isI {l : List UInt8} {n : Int} (h : pz l = some n) : isI n := by
 unfold pz at h
 split at h
 ·rename_i v hv
  split at h
  ·injection h with h
   subst h
   exact parseIntB_bound hv
  ·exact absurd h (by simp)
 ·exact absurd h (by simp)
def intA (o : Option Int) : Int × Int := match o with | some n => (n, 0) | none => (0, 10)
def total (l : List ByteArray) : Nat := (l.map fun s => s.size).sum
def datas (l : List ByteArray) : List (List UInt8) := l.map fun s => s.data.toList
theorem datas_B (ss : List (List UInt8)) : datas (ss.map B) = ss := by
 unfold datas; rw [List.map_map]
 conv => rhs; rw [← List.map_id ss]
 exact List.map_congr_left fun s _ => B_data s
theorem B_datas (l : List ByteArray) : (datas l).map B = l := by
 unfold datas; rw [List.map_map]
 conv => rhs; rw [← List.map_id l]
 exact List.map_congr_left fun s _ => B_of s
theorem tie_total (l : List ByteArray) (hr : ∀ x ∈ l, x.size ≤ reachBytes) : (tieD (datas l)).length ≤ total l + 22 * l.length := by
 have hreach : reachBytes = 140737488351232 := rfl
 induction l with
 | nil => simp [tieD, datas]
 | cons s l ih =>
  have h1 := ih (fun x hx => hr x (by simp [hx]))
  have h2 := hr s (by simp)
  have h3 := itoa_le s.size (by omega)
  have hz := Lib.size_eq s
  show (tieD (s.data.toList :: datas l)).length ≤ _
  rw [tie_cons, List.length_append, strand_length, ← hz]
  simp only [total, List.map_cons, List.sum_cons, List.length_cons] at h1 ⊢
  omega
theorem tie_small {l : List ByteArray} (hr : ∀ x ∈ l, x.size ≤ reachBytes) (h1 : l.length ≤ 100) (h2 : total l ≤ 20000) : (tieD (datas l)).length ≤ 22200 := by
 have := tie_total l hr; omega
theorem ktie {l : List ByteArray} (h : (tieD (datas l)).length ≤ 140737488355328) : knot_Tie.f l = some (B (tieD (datas l))) := tie_eq h
/-- Untie, of what was tied. -/
theorem untieR_tie {l : List ByteArray} (h1 : l.length ≤ 4096) (h2 : (tieD (datas l)).length ≤ 1048576) : untieR (B (tieD (datas l))) = (l, 0) := by
 unfold untieR
 rw [B_data, untieL_tie (datas l) (by simpa [datas] using h1) h2]
 simp only [B_datas]
theorem tie_mem {x : List UInt8} : ∀ {ss : List (List UInt8)}, x ∈ ss → x.length ≤ (tieD ss).length
 | y :: ss, h => by
  rw [tie_cons, List.length_append, strand_length]
  rcases List.mem_cons.1 h with rfl | h
  ·omega
  ·have := tie_mem h; omega
theorem total_mem {x : ByteArray} : ∀ {l : List ByteArray}, x ∈ l → x.size ≤ total l
 | y :: l, h => by
  simp only [total, List.map_cons, List.sum_cons]
  rcases List.mem_cons.1 h with rfl | h
  ·omega
  ·have := total_mem h; unfold total at this; omega
end Go.Proofs.YtjfhcijjjadhbaaDoor.V
end
section
namespace Go.Proofs.YtjfhcijjjadhbaaDoor.P
open Go.RowKit Go.Proofs.YtjfhcijjjadhbaaDoor.K Go.Proofs.YtjfhcijjjadhbaaDoorW.PrintWords Go.Proofs.YtjfhcijjjadhbaaDoorW.PrintLast Go.Proofs.YtjfhcijjjadhbaaDoorW.PrintMore
attribute [local go_sem] max2_int min2_int max_two min_two max_three min_three max_four min_four   -- for this text's walks alone
def desc_isId.f (a0 : Int) : Option (Bool) := if a0 ≥ 1 then (some (decide (a0 ≤ 1099511627776))) else (some false)
set_option maxHeartbeats 8000000 in
set_option maxRecDepth 100000 in
theorem desc_isId.calls (a0 : Int) (r : Bool) (w : World) (hG : TheG w) (h : desc_isId.f a0 = some r) :
 Calls Tryd.prog 46 #[.int .i64 a0] w fun e w' => e = .returned (.bool r) ∧ Drawn0 w w' := by
 have H : (if a0 ≥ 1 then (some (decide (a0 ≤ 1099511627776))) else (some false)) = some r := h
 clear h
 by_cases c2 : a0 ≥ 1
 ·rw [if_pos c2] at H
  have c2b0 : decide (1 ≤ a0) = true := decide_eq_true c2
  clear c2
  obtain rfl := Option.some.inj H
  go_enter Tryd.func46, Tryd.ntmps46
  go_wp2
  go_ret
  exact ⟨by first | rfl | (simp; done) | (simp [*]; done), by repeat (first | exact Drawn0.refl _ | apply Drawn0.step)⟩
 ·rw [if_neg c2] at H
  have c2b0 : decide (1 ≤ a0) = false := decide_eq_false c2
  clear c2
  obtain rfl := Option.some.inj H
  go_enter Tryd.func46, Tryd.ntmps46
  go_wp2
  go_ret
  exact ⟨by first | rfl | (simp; done) | (simp [*]; done), by repeat (first | exact Drawn0.refl _ | apply Drawn0.step)⟩
end Go.Proofs.YtjfhcijjjadhbaaDoor.P
end
section
namespace Go.Proofs.YtjfhcijjjadhbaaDoor.P
open Go.RowKit Go.Proofs.YtjfhcijjjadhbaaDoor.K Go.Proofs.YtjfhcijjjadhbaaDoorW.PrintWords Go.Proofs.YtjfhcijjjadhbaaDoorW.PrintLast Go.Proofs.YtjfhcijjjadhbaaDoorW.PrintMore
attribute [local go_sem] max2_int min2_int max_two min_two max_three min_three max_four min_four
/-- A bound may be. -/
def boundOk (f t : ByteArray) : Bool := if f.size ≤ 33 ∧ t.size ≤ 33 then (t.toList == ([] : List UInt8)) || Op.bytesLess f.toList t.toList else false
def bound_Check.f (a0_0 a0_1 : ByteArray) : Option Int := some (if boundOk a0_0 a0_1 = true then 0 else 20)
set_option maxHeartbeats 4000000 in
set_option maxRecDepth 100000 in
theorem bound_Check.calls (a0_0 a0_1 : ByteArray) (r : Int) (w : World) (hG : TheG w) (h : bound_Check.f a0_0 a0_1 = some r) :
 Calls Tryd.prog 47 #[.agg #[.string a0_0, .string a0_1]] w fun e w' => e = .returned (.int .i64 r) ∧ Below w.heap.size w w' := by
 unfold bound_Check.f boundOk at h
 have hu := Tryd.underlying23
 obtain rfl := Option.some.inj h
 clear h
 have hB : ∀ o, Below w.heap.size w (w.alloc o) := fun o => pbA (Below.refl _ _) o
 by_cases hs : a0_0.size ≤ 33 ∧ a0_1.size ≤ 33
 ·obtain ⟨h1, h2⟩ := hs
  rw [if_pos (And.intro h1 h2)]
  have q1 : ¬ (33 : Int) < (a0_0.size : Int) := by omega
  have q2 : ¬ (33 : Int) < (a0_1.size : Int) := by omega
  by_cases he : a0_1.toList = ([] : List UInt8)
  ·have e1 : (a0_1.toList == ([] : List UInt8)) = true := beq_iff_eq.mpr he
   have e2 : (a0_1.toList != ([] : List UInt8)) = false := bne_eq_false_iff_eq.mpr he
   rw [e1]
   clear he
   go_enter Tryd.func47, Tryd.ntmps47
   go_wp2
   all_goals go_ret
   all_goals exact ⟨rfl, hB _⟩
  ·have e1 : (a0_1.toList == ([] : List UInt8)) = false := beq_eq_false_iff_ne.mpr he
   have e2 : (a0_1.toList != ([] : List UInt8)) = true := bne_iff_ne.mpr he
   rw [e1]
   clear he
   cases hl : Op.bytesLess a0_0.toList a0_1.toList
   all_goals
    go_enter Tryd.func47, Tryd.ntmps47
    go_wp2
   all_goals go_ret
   all_goals exact ⟨rfl, hB _⟩
 ·rw [if_neg hs]
  by_cases hlt : (a0_0.size : Int) < (a0_1.size : Int)
  ·have q : (33 : Int) < (a0_1.size : Int) := by omega
   go_enter Tryd.func47, Tryd.ntmps47
   go_wp2
   all_goals go_ret
   all_goals exact ⟨rfl, hB _⟩
  ·have q : (33 : Int) < (a0_0.size : Int) := by omega
   go_enter Tryd.func47, Tryd.ntmps47
   go_wp2
   all_goals go_ret
   all_goals exact ⟨rfl, hB _⟩
end Go.Proofs.YtjfhcijjjadhbaaDoor.P
end
section
namespace Go.Proofs.YtjfhcijjjadhbaaDoor.P
open Go.RowKit Go.Proofs.YtjfhcijjjadhbaaDoor.K Go.Proofs.YtjfhcijjjadhbaaDoorW.PrintWords Go.Proofs.YtjfhcijjjadhbaaDoorW.PrintLast Go.Proofs.YtjfhcijjjadhbaaDoorW.PrintMore
attribute [local go_sem] max2_int min2_int max_two min_two max_three min_three max_four min_four   -- for this text's walks alone
def desc_isNode.f (a0 : Int) : Option (Bool) := if a0 ≥ 1 then (some (decide (a0 ≤ 7))) else (some false)
set_option maxHeartbeats 8000000 in
set_option maxRecDepth 100000 in
theorem desc_isNode.calls (a0 : Int) (r : Bool) (w : World) (hG : TheG w) (h : desc_isNode.f a0 = some r) :
 Calls Tryd.prog 49 #[.int .i64 a0] w fun e w' => e = .returned (.bool r) ∧ Drawn0 w w' := by
 have H : (if a0 ≥ 1 then (some (decide (a0 ≤ 7))) else (some false)) = some r := h
 clear h
 by_cases c2 : a0 ≥ 1
 ·rw [if_pos c2] at H
  have c2b0 : decide (1 ≤ a0) = true := decide_eq_true c2
  clear c2
  obtain rfl := Option.some.inj H
  go_enter Tryd.func49, Tryd.ntmps49
  go_wp2
  go_ret
  exact ⟨by first | rfl | (simp; done) | (simp [*]; done), by repeat (first | exact Drawn0.refl _ | apply Drawn0.step)⟩
 ·rw [if_neg c2] at H
  have c2b0 : decide (1 ≤ a0) = false := decide_eq_false c2
  clear c2
  obtain rfl := Option.some.inj H
  go_enter Tryd.func49, Tryd.ntmps49
  go_wp2
  go_ret
  exact ⟨by first | rfl | (simp; done) | (simp [*]; done), by repeat (first | exact Drawn0.refl _ | apply Drawn0.step)⟩
end Go.Proofs.YtjfhcijjjadhbaaDoor.P
end
section
namespace Go.Proofs.YtjfhcijjjadhbaaDoor.P
open Go.RowKit Go.Proofs.YtjfhcijjjadhbaaDoor.K Go.Proofs.YtjfhcijjjadhbaaDoorW.PrintWords Go.Proofs.YtjfhcijjjadhbaaDoorW.PrintLast Go.Proofs.YtjfhcijjjadhbaaDoorW.PrintMore
attribute [local go_sem ↓] Go.wp_at_zero Go.wp_at_succ
/-- Members behind a last Id, some nodes being taken. -/
def isMem (next : Int) : Int → (Nat → Bool) → List S60 → Bool
 | _, _, [] => true
 | last, on, m :: r => if 1 ≤ m.f0 ∧ m.f0 ≤ 7 ∧ on m.f0.toNat = false ∧ last < m.f1 ∧ m.f1 < next then isMem next m.f1 (fun j => j == m.f0.toNat || on j) r else false
def desc_isMembers.f (l0 : List S60) (a1 : Int) : Option Bool := if l0.length = 0 ∨ 5 < l0.length then some false else some (isMem a1 0 (fun _ => false) l0)
def arrOf (on : Nat → Bool) : Array Value := #[.bool (on 0), .bool (on 1), .bool (on 2), .bool (on 3), .bool (on 4), .bool (on 5), .bool (on 6), .bool (on 7)]
theorem arrOf_get (on : Nat → Bool) {n : Nat} (h : n < 8) : (arrOf on)[n]? = some (.bool (on n)) := by
 match n, h with
 | 0, _ => rfl
 | 1, _ => rfl
 | 2, _ => rfl
 | 3, _ => rfl
 | 4, _ => rfl
 | 5, _ => rfl
 | 6, _ => rfl
 | 7, _ => rfl
theorem arrOf_set (on : Nat → Bool) {n : Nat} (h : n < 8) : (arrOf on).setIfInBounds n (.bool true) = arrOf (fun j => j == n || on j) := by
 match n, h with
 | 0, _ => rfl
 | 1, _ => rfl
 | 2, _ => rfl
 | 3, _ => rfl
 | 4, _ => rfl
 | 5, _ => rfl
 | 6, _ => rfl
 | 7, _ => rfl
set_option maxHeartbeats 4000000 in
set_option maxRecDepth 100000 in
theorem desc_isMembers.calls (A0 : Option Addr) (c0 : Nat) (l0 : List (S60)) (a1 : Int) (r : Bool) (w : World) (hG : TheG w) (hr0 : Kd.C k60 w A0 l0.length l0) (hc0 : l0.length ≤ c0) (h : desc_isMembers.f l0 a1 = some r) :
 Calls Tryd.prog 48 #[.slice A0 l0.length c0, .int .i64 a1] w fun e w' => e = .returned (.bool r) ∧ Below w.heap.size w w' := by
 unfold desc_isMembers.f at h
 have HC := Lib.hid hr0
 clear hr0
 by_cases hz : l0.length = 0
 ·rw [if_pos (.inl hz)] at h
  obtain rfl := Option.some.inj h
  rw [hz]
  go_enter Tryd.func48, Tryd.ntmps48
  go_wp2
  go_ret
  exact ⟨rfl, Below.refl _ _⟩
 have hq : ((l0.length : Int) == 0) = false := by rw [beq_eq_false_iff_ne]; omega
 by_cases h5 : 5 < l0.length
 ·rw [if_pos (.inr h5)] at h
  obtain rfl := Option.some.inj h
  have hq5 : (5 : Int) < (l0.length : Int) := by omega
  go_enter Tryd.func48, Tryd.ntmps48
  go_wp2
  go_ret
  exact ⟨rfl, Below.refl _ _⟩
 rw [if_neg (by omega)] at h
 obtain rfl := Option.some.inj h
 clear h
 have hq5 : ¬ (5 : Int) < (l0.length : Int) := by omega
 go_enter Tryd.func48, Tryd.ntmps48
 go_wp2
 go_loopw [6, 19] (fun v6 i wr => ∃ (k : Nat) (last : Int) (on : Nat → Bool), k ≤ l0.length ∧ v6 = .int .i64 last ∧ i = .int .i64 k ∧ Hid (isMem a1 0 (fun _ => false) l0 = isMem a1 last on (l0.drop k)) ∧ Hid (wr.heap[w.heap.size]? = some (.cells (arrOf on) 116 (0, 0))) ∧ Hid (Below w.heap.size w wr)) (fun _ i _ => l0.length - (intOf i).toNat)
 case atStart => exact ⟨0, 0, fun _ => false, Nat.zero_le _, rfl, rfl, Lib.hid rfl, Lib.hid (heap_alloc_new w _), Lib.hid (pbA (Below.refl _ _) _)⟩
 case round =>
  obtain ⟨k, last, on, hk, rfl, rfl, HN, HBK, HB⟩ := hrel
  by_cases hlt : k < l0.length
  ·have hk0 : (0 : Int) ≤ (k : Int) := by omega
   have hk1 : (k : Int) < (l0.length : Int) := by omega
   obtain ⟨ad, ea, hc0, hc1⟩ := at_T60 (Kd.C_below HC.out HB.out) (k : Int) hk0 hk1
   subst ea
   rw [Int.toNat_natCast] at hc0 hc1
   have hdrop : l0.drop k = l0[k] :: l0.drop (k + 1) := List.drop_eq_getElem_cons hlt
   have hrd : rd_T60 l0 (k : Int) = l0[k] := by simp [rd_T60, hlt]
   have hN := HN.out
   rw [hdrop] at hN
   simp only [isMem] at hN
   rw [← hrd] at hN
   clear hdrop hrd HN
   generalize rd_T60 l0 (k : Int) = m at hc0 hc1 hN
   obtain ⟨nd, id⟩ := m
   simp only at hc0 hc1 hN
   by_cases hnode : 1 ≤ nd ∧ nd ≤ 7
   ·obtain ⟨n, rfl⟩ : ∃ n : Nat, nd = n := ⟨nd.toNat, by omega⟩
    rw [Int.toNat_natCast] at hN
    have hn8 : n < 8 := by omega
    have hbl := blk_lt HBK.out
    have hfz := bkF HBK.out n
    have hcell := (bkC HBK.out n).trans (arrOf_get on hn8)
    have hisn : desc_isNode.f (n : Int) = some true := by unfold desc_isNode.f; rw [if_pos (by omega), decide_eq_true (by omega)]
    by_cases hon : on n = true
    ·rw [if_neg (by rw [hon]; simp)] at hN
     rw [hon] at hcell
     go_wp2
     go_ret
     exact ⟨by first | rfl | (rw [hN]; rfl), HB.out.alloc HB.out.size _⟩
    ·have hon : on n = false := by simpa using hon
     rw [hon] at hcell
     by_cases hl : last < id
     ·by_cases hx : id < a1
      ·rw [if_pos ⟨hnode.1, hnode.2, hon, hl, hx⟩] at hN
       have HN := Lib.hid hN
       clear hN
       have hl' : ¬ id ≤ last := by omega
       have hx' : ¬ a1 ≤ id := by omega
       go_wp2
       go_region
       go_wp2
       go_roundw
       case rel => exact ⟨k + 1, id, fun j => j == n || on j, by omega, rfl, by go_num, HN, Lib.hid (bkD (bkA (blk_put HBK.out n _ (arrOf_set on hn8)) _)), Lib.hid (pb1 (pbA (pbS HB.out (Nat.le_refl _)) _))⟩
       case measure => simp [intOf]; omega
      ·rw [if_neg (by omega)] at hN
       have hl' : ¬ id ≤ last := by omega
       have hx' : a1 ≤ id := by omega
       go_wp2
       go_ret
       exact ⟨by first | rfl | (rw [hN]; rfl), HB.out.alloc HB.out.size _⟩
     ·rw [if_neg (by omega)] at hN
      have hl' : id ≤ last := by omega
      go_wp2
      go_ret
      exact ⟨by first | rfl | (rw [hN]; rfl), HB.out.alloc HB.out.size _⟩
   ·rw [if_neg (by omega)] at hN
    by_cases h1 : 1 ≤ nd
    ·have h7 : ¬ nd ≤ 7 := by omega
     go_wp2
     go_ret
     exact ⟨by first | rfl | (rw [hN]; rfl), HB.out.alloc HB.out.size _⟩
    ·go_wp2
     go_ret
     exact ⟨by first | rfl | (rw [hN]; rfl), HB.out.alloc HB.out.size _⟩
  ·obtain rfl : k = l0.length := by omega
   have hN := HN.out
   rw [List.drop_length] at hN
   simp only [isMem] at hN
   go_wp2
   go_ret
   exact ⟨by first | rfl | (rw [hN]; rfl), HB.out⟩
end Go.Proofs.YtjfhcijjjadhbaaDoor.P
end
section
namespace Go.Proofs.YtjfhcijjjadhbaaDoor.P
open Go.RowKit Go.Proofs.YtjfhcijjjadhbaaDoor.K Go.Proofs.YtjfhcijjjadhbaaDoorW.PrintWords Go.Proofs.YtjfhcijjjadhbaaDoorW.PrintLast Go.Proofs.YtjfhcijjjadhbaaDoorW.PrintMore
attribute [local go_sem] max2_int min2_int max_two min_two max_three min_three max_four min_four   -- for this text's walks alone
def desc_Check.f (a0_0 : Int) (a0_1 : ByteArray) (a0_2 : ByteArray) (a0_3 : Int) (l0_4 : List (S60)) (a0_5 : Int) : Option (Int) := (desc_isId.f a0_0).bind fun t103 => (if t103 = true then ((desc_isId.f a0_3).bind fun t104 => (if t104 = true then ((desc_isId.f a0_5).bind fun t105 => (if t105 = true then ((bound_Check.f a0_1 a0_2).bind fun t106 => (if t106 = 0 then ((desc_isMembers.f l0_4 a0_5).bind fun t107 => (if t107 = true then (some 0) else (some 60))) else (some 60))) else (some 60))) else (some 60))) else (some 60))
set_option maxHeartbeats 8000000 in
set_option maxRecDepth 100000 in
theorem desc_Check.calls (a0_0 : Int) (a0_1 : ByteArray) (a0_2 : ByteArray) (a0_3 : Int) (A0_4 : Option Addr) (c0_4 : Nat) (l0_4 : List (S60)) (a0_5 : Int) (r : Int) (w : World) (hG : TheG w) (hr0_4 : Kd.C k60 w A0_4 l0_4.length l0_4) (hc0_4 : l0_4.length ≤ c0_4) (h : desc_Check.f a0_0 a0_1 a0_2 a0_3 l0_4 a0_5 = some r) :
 Calls Tryd.prog 22 #[.agg #[.int .i64 a0_0, .string a0_1, .string a0_2, .int .i64 a0_3, .slice A0_4 l0_4.length c0_4, .int .i64 a0_5]] w fun e w' => e = .returned (.int .i64 r) ∧ Below w.heap.size w w' := by
 have hu26 := Tryd.underlying26
 have hu23 := Tryd.underlying23
 have HR0_4 := Az.mk hr0_4
 have HC0_4 := Az.mk hc0_4
 clear hr0_4 hc0_4
 have HB := Az.mk (Below.refl w.heap.size w)
 have H : ((desc_isId.f a0_0).bind fun t103 => (if t103 = true then ((desc_isId.f a0_3).bind fun t104 => (if t104 = true then ((desc_isId.f a0_5).bind fun t105 => (if t105 = true then ((bound_Check.f a0_1 a0_2).bind fun t106 => (if t106 = 0 then ((desc_isMembers.f l0_4 a0_5).bind fun t107 => (if t107 = true then (some 0) else (some 60))) else (some 60))) else (some 60))) else (some 60))) else (some 60))) = some r := h
 clear h
 replace H := Option.bind_eq_some_iff.mp H
 obtain ⟨t103, A20, H⟩ := H
 try dsimp only at H
 have A2 := Az.mk A20
 clear A20
 by_cases c3 : t103 = true
 ·subst c3
  rw [if_pos rfl] at H
  replace H := Option.bind_eq_some_iff.mp H
  obtain ⟨t104, A40, H⟩ := H
  try dsimp only at H
  have A4 := Az.mk A40
  clear A40
  by_cases c5 : t104 = true
  ·subst c5
   rw [if_pos rfl] at H
   replace H := Option.bind_eq_some_iff.mp H
   obtain ⟨t105, A60, H⟩ := H
   try dsimp only at H
   have A6 := Az.mk A60
   clear A60
   by_cases c7 : t105 = true
   ·subst c7
    rw [if_pos rfl] at H
    replace H := Option.bind_eq_some_iff.mp H
    obtain ⟨t106, A80, H⟩ := H
    try dsimp only at H
    have A8 := Az.mk A80
    clear A80
    by_cases c9 : t106 = 0
    ·rw [if_pos c9] at H
     have c9b0 : (t106 == 0) = true := beq_iff_eq.mpr c9
     have c9b1 : (t106 != 0) = false := bne_eq_false_iff_eq.mpr c9
     clear c9
     replace H := Option.bind_eq_some_iff.mp H
     obtain ⟨t107, A100, H⟩ := H
     try dsimp only at H
     have A10 := Az.mk A100
     clear A100
     by_cases c11 : t107 = true
     ·subst c11
      rw [if_pos rfl] at H
      obtain rfl := Option.some.inj H
      go_enter Tryd.func22, Tryd.ntmps22
      go_wp2_with (first | ((with_reducible refine gate_dst (N := 1) rfl ?_); refine box_event ?hg (N := 1) ?hd (cs := #[.int .i64 a0_0, .string a0_1, .string a0_2, .int .i64 a0_3, .slice A0_4 l0_4.length c0_4, .int .i64 a0_5]) (t := 26) ?hr ?_; (case hd => rfl); (case hg => rfl); (case hr => first | (go_simp; done) | (go_simp; rfl)); intro gb102 hg w12 hbox hb; have BK102 := Az.mk (hbox); have GW102 := Az.mk (geO hg (pbE HB.out)); have GE102 := Az.mk (geO hg (pbE HB.out)); replace HB := Az.mk (pbT (by exact pbE HB.out) hb); clear hb hbox hg; have hcz13 := cells6 BK102.out) | ((with_reducible refine gtc (f := 46) rfl ?_); refine goesL_ (some 5) rfl rfl Tryd.func46 (by kernel_rfl) rfl #[.int .i64 a0_0] rfl (by (try simp only [List.map_toArray, List.map_cons, List.map_nil]); first | done | rfl | (simp only [List.length_drop, List.length_take]; rfl)) ?_; (with_reducible refine (desc_isId.calls a0_0 true _ ?side1 A2.out).mono ?_); (case side1 => exact hG.below (by exact pbE HB.out)); rintro e w' ⟨rfl, ⟨nd, rfl⟩⟩; refine ⟨_, rfl, ?_⟩) | (go_at_call 46; (with_reducible refine (desc_isId.calls a0_3 true _ ?side1 A4.out).mono ?_); (case side1 => exact hG.below (by exact pbE HB.out)); rintro e w' ⟨rfl, ⟨nd, rfl⟩⟩) | (go_at_call 46; (with_reducible refine (desc_isId.calls a0_5 true _ ?side1 A6.out).mono ?_); (case side1 => exact hG.below (by exact pbE HB.out)); rintro e w' ⟨rfl, ⟨nd, rfl⟩⟩) | (go_at_call 47; (with_reducible refine (bound_Check.calls a0_1 a0_2 t106 _ ?side1 A8.out).mono ?_); (case side1 => exact hG.below (by exact pbE HB.out)); rintro e w14 ⟨rfl, hb⟩; replace BK102 := Az.mk (bkB (bk BK102.out) hb); replace HB := Az.mk (pbT (by exact pbE HB.out) hb); (try clear hb); (try clear hb2); (try clear hk); (try clear hi); have hcz15 := cells6 BK102.out) | (go_at_call 48; (with_reducible refine (desc_isMembers.calls _ _ l0_4 a0_5 true _ ?side1 ?side2 ?side3 A10.out).mono ?_); (case side1 => exact hG.below (by exact pbE HB.out)); (case side2 => repeat (first | exact (Kd.C_below HR0_4.out HB.out) | (with_reducible refine Kd.C_alloc ?_ _) | (with_reducible refine Kd.C_drewN ?_ _) | (with_reducible refine Kd.C_drew ?_))); (case side3 => exact HC0_4.out); rintro e w16 ⟨rfl, hb⟩; replace BK102 := Az.mk (bkB (bk BK102.out) hb); replace HB := Az.mk (pbT (by exact pbE HB.out) hb); (try clear hb); (try clear hb2); (try clear hk); (try clear hi)))
      go_ret
      exact ⟨by first | rfl | (simp [errW_none, errW_some] <;> rfl) | (simp [*, errW_none, errW_some] <;> rfl), by exact pbE HB.out⟩
     ·replace c11 := Bool.eq_false_iff.mpr c11
      subst c11
      rw [if_neg (show ¬ (false = true) by decide)] at H
      obtain rfl := Option.some.inj H
      go_enter Tryd.func22, Tryd.ntmps22
      go_wp2_with (first | ((with_reducible refine gate_dst (N := 1) rfl ?_); refine box_event ?hg (N := 1) ?hd (cs := #[.int .i64 a0_0, .string a0_1, .string a0_2, .int .i64 a0_3, .slice A0_4 l0_4.length c0_4, .int .i64 a0_5]) (t := 26) ?hr ?_; (case hd => rfl); (case hg => rfl); (case hr => first | (go_simp; done) | (go_simp; rfl)); intro gb102 hg w17 hbox hb; have BK102 := Az.mk (hbox); have GW102 := Az.mk (geO hg (pbE HB.out)); have GE102 := Az.mk (geO hg (pbE HB.out)); replace HB := Az.mk (pbT (by exact pbE HB.out) hb); clear hb hbox hg; have hcz18 := cells6 BK102.out) | ((with_reducible refine gtc (f := 46) rfl ?_); refine goesL_ (some 5) rfl rfl Tryd.func46 (by kernel_rfl) rfl #[.int .i64 a0_0] rfl (by (try simp only [List.map_toArray, List.map_cons, List.map_nil]); first | done | rfl | (simp only [List.length_drop, List.length_take]; rfl)) ?_; (with_reducible refine (desc_isId.calls a0_0 true _ ?side1 A2.out).mono ?_); (case side1 => exact hG.below (by exact pbE HB.out)); rintro e w' ⟨rfl, ⟨nd, rfl⟩⟩; refine ⟨_, rfl, ?_⟩) | (go_at_call 46; (with_reducible refine (desc_isId.calls a0_3 true _ ?side1 A4.out).mono ?_); (case side1 => exact hG.below (by exact pbE HB.out)); rintro e w' ⟨rfl, ⟨nd, rfl⟩⟩) | (go_at_call 46; (with_reducible refine (desc_isId.calls a0_5 true _ ?side1 A6.out).mono ?_); (case side1 => exact hG.below (by exact pbE HB.out)); rintro e w' ⟨rfl, ⟨nd, rfl⟩⟩) | (go_at_call 47; (with_reducible refine (bound_Check.calls a0_1 a0_2 t106 _ ?side1 A8.out).mono ?_); (case side1 => exact hG.below (by exact pbE HB.out)); rintro e w19 ⟨rfl, hb⟩; replace BK102 := Az.mk (bkB (bk BK102.out) hb); replace HB := Az.mk (pbT (by exact pbE HB.out) hb); (try clear hb); (try clear hb2); (try clear hk); (try clear hi); have hcz20 := cells6 BK102.out) | (go_at_call 48; (with_reducible refine (desc_isMembers.calls _ _ l0_4 a0_5 false _ ?side1 ?side2 ?side3 A10.out).mono ?_); (case side1 => exact hG.below (by exact pbE HB.out)); (case side2 => repeat (first | exact (Kd.C_below HR0_4.out HB.out) | (with_reducible refine Kd.C_alloc ?_ _) | (with_reducible refine Kd.C_drewN ?_ _) | (with_reducible refine Kd.C_drew ?_))); (case side3 => exact HC0_4.out); rintro e w21 ⟨rfl, hb⟩; replace BK102 := Az.mk (bkB (bk BK102.out) hb); replace HB := Az.mk (pbT (by exact pbE HB.out) hb); (try clear hb); (try clear hb2); (try clear hk); (try clear hi)))
      go_ret
      exact ⟨by first | rfl | (simp [errW_none, errW_some] <;> rfl) | (simp [*, errW_none, errW_some] <;> rfl), by exact pbE HB.out⟩
    ·rw [if_neg c9] at H
     have c9b0 : (t106 == 0) = false := beq_eq_false_iff_ne.mpr c9
     have c9b1 : (t106 != 0) = true := bne_iff_ne.mpr c9
     obtain rfl := Option.some.inj H
     go_enter Tryd.func22, Tryd.ntmps22
     go_wp2_with (first | ((with_reducible refine gate_dst (N := 1) rfl ?_); refine box_event ?hg (N := 1) ?hd (cs := #[.int .i64 a0_0, .string a0_1, .string a0_2, .int .i64 a0_3, .slice A0_4 l0_4.length c0_4, .int .i64 a0_5]) (t := 26) ?hr ?_; (case hd => rfl); (case hg => rfl); (case hr => first | (go_simp; done) | (go_simp; rfl)); intro gb102 hg w22 hbox hb; have BK102 := Az.mk (hbox); have GW102 := Az.mk (geO hg (pbE HB.out)); have GE102 := Az.mk (geO hg (pbE HB.out)); replace HB := Az.mk (pbT (by exact pbE HB.out) hb); clear hb hbox hg; have hcz23 := cells6 BK102.out) | ((with_reducible refine gtc (f := 46) rfl ?_); refine goesL_ (some 5) rfl rfl Tryd.func46 (by kernel_rfl) rfl #[.int .i64 a0_0] rfl (by (try simp only [List.map_toArray, List.map_cons, List.map_nil]); first | done | rfl | (simp only [List.length_drop, List.length_take]; rfl)) ?_; (with_reducible refine (desc_isId.calls a0_0 true _ ?side1 A2.out).mono ?_); (case side1 => exact hG.below (by exact pbE HB.out)); rintro e w' ⟨rfl, ⟨nd, rfl⟩⟩; refine ⟨_, rfl, ?_⟩) | (go_at_call 46; (with_reducible refine (desc_isId.calls a0_3 true _ ?side1 A4.out).mono ?_); (case side1 => exact hG.below (by exact pbE HB.out)); rintro e w' ⟨rfl, ⟨nd, rfl⟩⟩) | (go_at_call 46; (with_reducible refine (desc_isId.calls a0_5 true _ ?side1 A6.out).mono ?_); (case side1 => exact hG.below (by exact pbE HB.out)); rintro e w' ⟨rfl, ⟨nd, rfl⟩⟩) | (go_at_call 47; (with_reducible refine (bound_Check.calls a0_1 a0_2 t106 _ ?side1 A8.out).mono ?_); (case side1 => exact hG.below (by exact pbE HB.out)); rintro e w24 ⟨rfl, hb⟩; replace BK102 := Az.mk (bkB (bk BK102.out) hb); replace HB := Az.mk (pbT (by exact pbE HB.out) hb); (try clear hb); (try clear hb2); (try clear hk); (try clear hi)))
     go_ret
     exact ⟨by first | rfl | (simp [errW_none, errW_some] <;> rfl) | (simp [*, errW_none, errW_some] <;> rfl), by exact pbE HB.out⟩
   ·replace c7 := Bool.eq_false_iff.mpr c7
    subst c7
    rw [if_neg (show ¬ (false = true) by decide)] at H
    obtain rfl := Option.some.inj H
    go_enter Tryd.func22, Tryd.ntmps22
    go_wp2_with (first | ((with_reducible refine gate_dst (N := 1) rfl ?_); refine box_event ?hg (N := 1) ?hd (cs := #[.int .i64 a0_0, .string a0_1, .string a0_2, .int .i64 a0_3, .slice A0_4 l0_4.length c0_4, .int .i64 a0_5]) (t := 26) ?hr ?_; (case hd => rfl); (case hg => rfl); (case hr => first | (go_simp; done) | (go_simp; rfl)); intro gb102 hg w25 hbox hb; have BK102 := Az.mk (hbox); have GW102 := Az.mk (geO hg (pbE HB.out)); have GE102 := Az.mk (geO hg (pbE HB.out)); replace HB := Az.mk (pbT (by exact pbE HB.out) hb); clear hb hbox hg; have hcz26 := cells6 BK102.out) | ((with_reducible refine gtc (f := 46) rfl ?_); refine goesL_ (some 5) rfl rfl Tryd.func46 (by kernel_rfl) rfl #[.int .i64 a0_0] rfl (by (try simp only [List.map_toArray, List.map_cons, List.map_nil]); first | done | rfl | (simp only [List.length_drop, List.length_take]; rfl)) ?_; (with_reducible refine (desc_isId.calls a0_0 true _ ?side1 A2.out).mono ?_); (case side1 => exact hG.below (by exact pbE HB.out)); rintro e w' ⟨rfl, ⟨nd, rfl⟩⟩; refine ⟨_, rfl, ?_⟩) | (go_at_call 46; (with_reducible refine (desc_isId.calls a0_3 true _ ?side1 A4.out).mono ?_); (case side1 => exact hG.below (by exact pbE HB.out)); rintro e w' ⟨rfl, ⟨nd, rfl⟩⟩) | (go_at_call 46; (with_reducible refine (desc_isId.calls a0_5 false _ ?side1 A6.out).mono ?_); (case side1 => exact hG.below (by exact pbE HB.out)); rintro e w' ⟨rfl, ⟨nd, rfl⟩⟩))
    go_ret
    exact ⟨by first | rfl | (simp [errW_none, errW_some] <;> rfl) | (simp [*, errW_none, errW_some] <;> rfl), by exact pbE HB.out⟩
  ·replace c5 := Bool.eq_false_iff.mpr c5
   subst c5
   rw [if_neg (show ¬ (false = true) by decide)] at H
   obtain rfl := Option.some.inj H
   go_enter Tryd.func22, Tryd.ntmps22
   go_wp2_with (first | ((with_reducible refine gate_dst (N := 1) rfl ?_); refine box_event ?hg (N := 1) ?hd (cs := #[.int .i64 a0_0, .string a0_1, .string a0_2, .int .i64 a0_3, .slice A0_4 l0_4.length c0_4, .int .i64 a0_5]) (t := 26) ?hr ?_; (case hd => rfl); (case hg => rfl); (case hr => first | (go_simp; done) | (go_simp; rfl)); intro gb102 hg w27 hbox hb; have BK102 := Az.mk (hbox); have GW102 := Az.mk (geO hg (pbE HB.out)); have GE102 := Az.mk (geO hg (pbE HB.out)); replace HB := Az.mk (pbT (by exact pbE HB.out) hb); clear hb hbox hg; have hcz28 := cells6 BK102.out) | ((with_reducible refine gtc (f := 46) rfl ?_); refine goesL_ (some 5) rfl rfl Tryd.func46 (by kernel_rfl) rfl #[.int .i64 a0_0] rfl (by (try simp only [List.map_toArray, List.map_cons, List.map_nil]); first | done | rfl | (simp only [List.length_drop, List.length_take]; rfl)) ?_; (with_reducible refine (desc_isId.calls a0_0 true _ ?side1 A2.out).mono ?_); (case side1 => exact hG.below (by exact pbE HB.out)); rintro e w' ⟨rfl, ⟨nd, rfl⟩⟩; refine ⟨_, rfl, ?_⟩) | (go_at_call 46; (with_reducible refine (desc_isId.calls a0_3 false _ ?side1 A4.out).mono ?_); (case side1 => exact hG.below (by exact pbE HB.out)); rintro e w' ⟨rfl, ⟨nd, rfl⟩⟩))
   go_ret
   exact ⟨by first | rfl | (simp [errW_none, errW_some] <;> rfl) | (simp [*, errW_none, errW_some] <;> rfl), by exact pbE HB.out⟩
 ·replace c3 := Bool.eq_false_iff.mpr c3
  subst c3
  rw [if_neg (show ¬ (false = true) by decide)] at H
  obtain rfl := Option.some.inj H
  go_enter Tryd.func22, Tryd.ntmps22
  go_wp2_with (first | ((with_reducible refine gate_dst (N := 1) rfl ?_); refine box_event ?hg (N := 1) ?hd (cs := #[.int .i64 a0_0, .string a0_1, .string a0_2, .int .i64 a0_3, .slice A0_4 l0_4.length c0_4, .int .i64 a0_5]) (t := 26) ?hr ?_; (case hd => rfl); (case hg => rfl); (case hr => first | (go_simp; done) | (go_simp; rfl)); intro gb102 hg w29 hbox hb; have BK102 := Az.mk (hbox); have GW102 := Az.mk (geO hg (pbE HB.out)); have GE102 := Az.mk (geO hg (pbE HB.out)); replace HB := Az.mk (pbT (by exact pbE HB.out) hb); clear hb hbox hg; have hcz30 := cells6 BK102.out) | ((with_reducible refine gtc (f := 46) rfl ?_); refine goesL_ (some 5) rfl rfl Tryd.func46 (by kernel_rfl) rfl #[.int .i64 a0_0] rfl (by (try simp only [List.map_toArray, List.map_cons, List.map_nil]); first | done | rfl | (simp only [List.length_drop, List.length_take]; rfl)) ?_; (with_reducible refine (desc_isId.calls a0_0 false _ ?side1 A2.out).mono ?_); (case side1 => exact hG.below (by exact pbE HB.out)); rintro e w' ⟨rfl, ⟨nd, rfl⟩⟩; refine ⟨_, rfl, ?_⟩))
  go_ret
  exact ⟨by first | rfl | (simp [errW_none, errW_some] <;> rfl) | (simp [*, errW_none, errW_some] <;> rfl), by exact pbE HB.out⟩
def desc_right.f (a0_0 : Int) (a0_1 : ByteArray) (a0_2 : ByteArray) (a0_3 : Int) (l0_4 : List (S60)) (a0_5 : Int) : Option (Int × ByteArray × ByteArray × Int × (List (S60)) × Int × Int) := (desc_Check.f a0_0 a0_1 a0_2 a0_3 l0_4 a0_5).bind fun t121 => (if t121 = 0 then (some (a0_0, a0_1, a0_2, a0_3, l0_4, a0_5, 0)) else (some (0, (⟨#[]⟩ : ByteArray), (⟨#[]⟩ : ByteArray), 0, ([] : List (S60)), 0, t121)))
set_option maxHeartbeats 8000000 in
set_option maxRecDepth 100000 in
theorem desc_right.calls (a0_0 : Int) (a0_1 : ByteArray) (a0_2 : ByteArray) (a0_3 : Int) (P0_4_ : Nat → Prop) (A0_4 : Option Addr) (c0_4 : Nat) (l0_4 : List (S60)) (a0_5 : Int) (r1 : Int) (r2 : ByteArray) (r3 : ByteArray) (r4 : Int) (r5 : List (S60)) (r6 : Int) (r7 : Int) (w : World) (hG : TheG w) (hs0_4 : Kd.V k60 60 w w.heap.size (fun k_ => P0_4_ k_) (.slice A0_4 l0_4.length c0_4) l0_4) (h : desc_right.f a0_0 a0_1 a0_2 a0_3 l0_4 a0_5 = some (r1, r2, r3, r4, r5, r6, r7)) :
 Calls Tryd.prog 37 #[.agg #[.int .i64 a0_0, .string a0_1, .string a0_2, .int .i64 a0_3, .slice A0_4 l0_4.length c0_4, .int .i64 a0_5]] w fun e w' => ∃ v4_ : Value, e = .returned (.tuple #[.agg #[.int .i64 r1, .string r2, .string r3, .int .i64 r4, v4_, .int .i64 r6], .int .i64 r7]) ∧ Kd.V k60 60 w' w.heap.size (fun k_ => (P0_4_ k_ ∨ w.heap.size ≤ k_)) v4_ r5 ∧ Below w.heap.size w w' := by
 have hu26 := Tryd.underlying26
 have HO0_4 := Az.mk (show Kd.V k60 60 w w.heap.size (fun k_ => (P0_4_ k_ ∨ w.heap.size ≤ k_)) (.slice A0_4 l0_4.length c0_4) l0_4 from Kd.V_mono hs0_4 (fun k_ hk => .inl hk))
 have HB := Az.mk (Below.refl w.heap.size w)
 have H : ((desc_Check.f a0_0 a0_1 a0_2 a0_3 l0_4 a0_5).bind fun t121 => (if t121 = 0 then (some (a0_0, a0_1, a0_2, a0_3, l0_4, a0_5, 0)) else (some (0, (⟨#[]⟩ : ByteArray), (⟨#[]⟩ : ByteArray), 0, ([] : List (S60)), 0, t121)))) = some (r1, r2, r3, r4, r5, r6, r7) := h
 clear h
 replace H := Option.bind_eq_some_iff.mp H
 obtain ⟨t121, A20, H⟩ := H
 try dsimp only at H
 have A2 := Az.mk A20
 clear A20
 by_cases c3 : t121 = 0
 ·rw [if_pos c3] at H
  have c3b0 : (t121 == 0) = true := beq_iff_eq.mpr c3
  have c3b1 : (t121 != 0) = false := bne_eq_false_iff_eq.mpr c3
  clear c3
  simp only [Option.some.injEq, Prod.mk.injEq] at H
  obtain ⟨rfl, rfl, rfl, rfl, rfl, rfl, rfl⟩ := H
  go_enter Tryd.func37, Tryd.ntmps37
  go_wp2_with (first | ((with_reducible refine gate_dst (N := 1) rfl ?_); refine box_event ?hg (N := 1) ?hd (cs := #[.int .i64 a0_0, .string a0_1, .string a0_2, .int .i64 a0_3, .slice A0_4 l0_4.length c0_4, .int .i64 a0_5]) (t := 26) ?hr ?_; (case hd => rfl); (case hg => rfl); (case hr => first | (go_simp; done) | (go_simp; rfl)); intro gb119 hg w4 hbox hb; replace HO0_4 := Az.mk (Kd.V_below (Kd.V_elderB (Kd.V_ext HO0_4.out) gb119 (Nat.le_of_eq hg.symm)) hb); have BK119 := Az.mk (hbox); have GW119 := Az.mk (geO hg (pbE HB.out)); have GE119 := Az.mk (geO hg (pbE HB.out)); replace HB := Az.mk (pbT (by exact pbE HB.out) hb); clear hb hbox hg) | ((with_reducible refine gate_dst (N := 2) rfl ?_); refine box_event ?hg (N := 2) ?hd (cs := #[.int .i64 0, .string (⟨#[]⟩ : ByteArray), .string (⟨#[]⟩ : ByteArray), .int .i64 0, .slice none 0 0, .int .i64 0]) (t := 26) ?hr ?_; (case hd => rfl); (case hg => rfl); (case hr => first | (go_simp; done) | (go_simp; rfl)); intro gb120 hg w5 hbox hb; replace HO0_4 := Az.mk (Kd.V_below (Kd.V_elderB (Kd.V_ext HO0_4.out) gb120 (Nat.le_of_eq hg.symm)) hb); have BK120 := Az.mk (hbox); have GW120 := Az.mk (geO hg (pbE HB.out)); have GE120 := Az.mk (geO hg (pbE HB.out)); replace HB := Az.mk (pbT (by exact pbE HB.out) hb); have NB119_120 := Az.mk (neO hg (bk BK119.out)); have NB120_119 := Az.mk (neP hg (bk BK119.out)); replace BK119 := Az.mk (bkB (bk BK119.out) hb); clear hb hbox hg; have hnb6 := NB119_120.out; have hnc6 := NB120_119.out; have hcz7 := cells6 BK119.out) | ((with_reducible refine gtc (f := 22) rfl ?_); refine goesL_ (some 6) rfl rfl Tryd.func22 (by kernel_rfl) rfl #[.agg #[.int .i64 a0_0, .string a0_1, .string a0_2, .int .i64 a0_3, .slice A0_4 l0_4.length c0_4, .int .i64 a0_5]] rfl (by (try simp only [List.map_toArray, List.map_cons, List.map_nil]); first | done | rfl | (simp only [List.length_drop, List.length_take]; rfl)) ?_; (with_reducible refine (desc_Check.calls a0_0 a0_1 a0_2 a0_3 _ _ l0_4 a0_5 t121 _ ?side1 ?side2 ?side3 A2.out).mono ?_); (case side1 => exact hG.below (by exact pbE HB.out)); (case side2 => repeat (first | exact (Kd.V_reads' HO0_4.out).2.2 | (with_reducible refine Kd.C_alloc ?_ _) | (with_reducible refine Kd.C_drewN ?_ _) | (with_reducible refine Kd.C_drew ?_))); (case side3 => exact (Kd.V_reads' HO0_4.out).2.1); rintro e w8 ⟨rfl, hb⟩; refine ⟨_, rfl, ?_⟩; replace HO0_4 := Az.mk (Kd.V_below (Kd.V_ext HO0_4.out) hb); replace BK119 := Az.mk (bkB (bk BK119.out) hb); replace BK120 := Az.mk (bkB (bk BK120.out) hb); replace HB := Az.mk (pbT (by exact pbE HB.out) hb); (try clear hb); (try clear hb2); (try clear hk); (try clear hi); have hcz9 := cells6 BK119.out; have hcz10 := cells6 BK120.out))
  refine bodyPost_ret (results_ct rfl _ _ gb120 26 #[.int .i64 a0_0, .string a0_1, .string a0_2, .int .i64 a0_3, .slice A0_4 l0_4.length c0_4, .int .i64 a0_5] (0, 0) _ rfl (by refine bk ?_; refine blk_put (cs := #[.int .i64 a0_0, .string a0_1, .string a0_2, .int .i64 a0_3, .slice A0_4 l0_4.length c0_4, .int .i64 0]) ?_ 5 _ rfl; refine bk ?_; refine blk_put (cs := #[.int .i64 a0_0, .string a0_1, .string a0_2, .int .i64 a0_3, .slice none 0 0, .int .i64 0]) ?_ 4 _ rfl; refine bk ?_; refine blk_put (cs := #[.int .i64 a0_0, .string a0_1, .string a0_2, .int .i64 0, .slice none 0 0, .int .i64 0]) ?_ 3 _ rfl; refine bk ?_; refine blk_put (cs := #[.int .i64 a0_0, .string a0_1, .string (⟨#[]⟩ : ByteArray), .int .i64 0, .slice none 0 0, .int .i64 0]) ?_ 2 _ rfl; refine bk ?_; refine blk_put (cs := #[.int .i64 a0_0, .string (⟨#[]⟩ : ByteArray), .string (⟨#[]⟩ : ByteArray), .int .i64 0, .slice none 0 0, .int .i64 0]) ?_ 1 _ rfl; refine bk ?_; refine blk_put (cs := #[.int .i64 0, .string (⟨#[]⟩ : ByteArray), .string (⟨#[]⟩ : ByteArray), .int .i64 0, .slice none 0 0, .int .i64 0]) ?_ 0 _ rfl; refine bk ?_; exact BK120.out) Tryd.underlying26 rfl (by kernel_rfl)) rfl ?_
  exact ⟨_, by first | rfl | (simp [errW_none, errW_some] <;> rfl) | (simp [*, errW_none, errW_some] <;> rfl), by (with_reducible repeat (first | apply Kd.V_alloc | apply Kd.V_drewN | apply Kd.V_drew)); exact Kd.V_mono (Kd.V_off (g := gb120) (fun _ hk => hk.2) (Kd.V_mono HO0_4.out (fun k_ hk => (⟨hk, hk.2⟩ : _ ∧ k_ ≠ gb120)))) (fun _ hk => hk.1.1.1), by exact pbE HB.out⟩
 ·rw [if_neg c3] at H
  have c3b0 : (t121 == 0) = false := beq_eq_false_iff_ne.mpr c3
  have c3b1 : (t121 != 0) = true := bne_iff_ne.mpr c3
  simp only [Option.some.injEq, Prod.mk.injEq] at H
  obtain ⟨rfl, rfl, rfl, rfl, rfl, rfl, rfl⟩ := H
  go_enter Tryd.func37, Tryd.ntmps37
  go_wp2_with (first | ((with_reducible refine gate_dst (N := 1) rfl ?_); refine box_event ?hg (N := 1) ?hd (cs := #[.int .i64 a0_0, .string a0_1, .string a0_2, .int .i64 a0_3, .slice A0_4 l0_4.length c0_4, .int .i64 a0_5]) (t := 26) ?hr ?_; (case hd => rfl); (case hg => rfl); (case hr => first | (go_simp; done) | (go_simp; rfl)); intro gb119 hg w11 hbox hb; replace HO0_4 := Az.mk (Kd.V_below (Kd.V_elderB (Kd.V_ext HO0_4.out) gb119 (Nat.le_of_eq hg.symm)) hb); have BK119 := Az.mk (hbox); have GW119 := Az.mk (geO hg (pbE HB.out)); have GE119 := Az.mk (geO hg (pbE HB.out)); replace HB := Az.mk (pbT (by exact pbE HB.out) hb); clear hb hbox hg) | ((with_reducible refine gate_dst (N := 2) rfl ?_); refine box_event ?hg (N := 2) ?hd (cs := #[.int .i64 0, .string (⟨#[]⟩ : ByteArray), .string (⟨#[]⟩ : ByteArray), .int .i64 0, .slice none 0 0, .int .i64 0]) (t := 26) ?hr ?_; (case hd => rfl); (case hg => rfl); (case hr => first | (go_simp; done) | (go_simp; rfl)); intro gb120 hg w12 hbox hb; replace HO0_4 := Az.mk (Kd.V_below (Kd.V_elderB (Kd.V_ext HO0_4.out) gb120 (Nat.le_of_eq hg.symm)) hb); have BK120 := Az.mk (hbox); have GW120 := Az.mk (geO hg (pbE HB.out)); have GE120 := Az.mk (geO hg (pbE HB.out)); replace HB := Az.mk (pbT (by exact pbE HB.out) hb); have NB119_120 := Az.mk (neO hg (bk BK119.out)); have NB120_119 := Az.mk (neP hg (bk BK119.out)); replace BK119 := Az.mk (bkB (bk BK119.out) hb); clear hb hbox hg; have hnb13 := NB119_120.out; have hnc13 := NB120_119.out; have hcz14 := cells6 BK119.out) | ((with_reducible refine gtc (f := 22) rfl ?_); refine goesL_ (some 6) rfl rfl Tryd.func22 (by kernel_rfl) rfl #[.agg #[.int .i64 a0_0, .string a0_1, .string a0_2, .int .i64 a0_3, .slice A0_4 l0_4.length c0_4, .int .i64 a0_5]] rfl (by (try simp only [List.map_toArray, List.map_cons, List.map_nil]); first | done | rfl | (simp only [List.length_drop, List.length_take]; rfl)) ?_; (with_reducible refine (desc_Check.calls a0_0 a0_1 a0_2 a0_3 _ _ l0_4 a0_5 t121 _ ?side1 ?side2 ?side3 A2.out).mono ?_); (case side1 => exact hG.below (by exact pbE HB.out)); (case side2 => repeat (first | exact (Kd.V_reads' HO0_4.out).2.2 | (with_reducible refine Kd.C_alloc ?_ _) | (with_reducible refine Kd.C_drewN ?_ _) | (with_reducible refine Kd.C_drew ?_))); (case side3 => exact (Kd.V_reads' HO0_4.out).2.1); rintro e w15 ⟨rfl, hb⟩; refine ⟨_, rfl, ?_⟩; replace HO0_4 := Az.mk (Kd.V_below (Kd.V_ext HO0_4.out) hb); replace BK119 := Az.mk (bkB (bk BK119.out) hb); replace BK120 := Az.mk (bkB (bk BK120.out) hb); replace HB := Az.mk (pbT (by exact pbE HB.out) hb); (try clear hb); (try clear hb2); (try clear hk); (try clear hi); have hcz16 := cells6 BK120.out))
  refine bodyPost_ret (results_ct rfl _ _ gb120 26 #[.int .i64 0, .string (⟨#[]⟩ : ByteArray), .string (⟨#[]⟩ : ByteArray), .int .i64 0, .slice none 0 0, .int .i64 0] (0, 0) _ rfl (by refine bk ?_; refine blk_put (cs := #[.int .i64 0, .string (⟨#[]⟩ : ByteArray), .string (⟨#[]⟩ : ByteArray), .int .i64 0, .slice none 0 0, .int .i64 0]) ?_ 5 _ rfl; refine bk ?_; refine blk_put (cs := #[.int .i64 0, .string (⟨#[]⟩ : ByteArray), .string (⟨#[]⟩ : ByteArray), .int .i64 0, .slice none 0 0, .int .i64 0]) ?_ 4 _ rfl; refine bk ?_; refine blk_put (cs := #[.int .i64 0, .string (⟨#[]⟩ : ByteArray), .string (⟨#[]⟩ : ByteArray), .int .i64 0, .slice none 0 0, .int .i64 0]) ?_ 3 _ rfl; refine bk ?_; refine blk_put (cs := #[.int .i64 0, .string (⟨#[]⟩ : ByteArray), .string (⟨#[]⟩ : ByteArray), .int .i64 0, .slice none 0 0, .int .i64 0]) ?_ 2 _ rfl; refine bk ?_; refine blk_put (cs := #[.int .i64 0, .string (⟨#[]⟩ : ByteArray), .string (⟨#[]⟩ : ByteArray), .int .i64 0, .slice none 0 0, .int .i64 0]) ?_ 1 _ rfl; refine bk ?_; refine blk_put (cs := #[.int .i64 0, .string (⟨#[]⟩ : ByteArray), .string (⟨#[]⟩ : ByteArray), .int .i64 0, .slice none 0 0, .int .i64 0]) ?_ 0 _ rfl; refine bk ?_; exact BK120.out) Tryd.underlying26 rfl (by kernel_rfl)) rfl ?_
  exact ⟨_, by first | rfl | (simp [errW_none, errW_some] <;> rfl) | (simp [*, errW_none, errW_some] <;> rfl), Kd.V_nil _ _ _ _ _, by exact pbE HB.out⟩
def desc_Put.l0 : Nat → List ByteArray → List (S60) → Int → Int → Option (ByteArray)
 | 0, _, _, _, _ => none
 | k + 1, x3, x23, x24, x25 => if x25 < x24 then (if 0 ≤ x25 then (if x25 < (x23.length : Int) then ((knot_Num.f ((rd_T60 x23 x25).f0)).bind fun t154 => ((knot_Num.f ((rd_T60 x23 x25).f1)).bind fun t155 => ((some (([t154, t155] : List ByteArray) : List ByteArray)).bind fun y156 => (if x3.length + y156.length < 8796093022208 then (desc_Put.l0 k (x3 ++ y156) x23 x24 (wrap64 (x25 + 1))) else (none))))) else (none)) else (none)) else ((knot_Tie.f x3).bind fun t162 => (some t162))
def desc_Put.f (k : Nat) (a0_0 : Int) (a0_1 : ByteArray) (a0_2 : ByteArray) (a0_3 : Int) (l0_4 : List (S60)) (a0_5 : Int) : Option (ByteArray) := (knot_Num.f a0_0).bind fun t146 => ((knot_Num.f a0_3).bind fun t147 => ((knot_Num.f a0_5).bind fun t148 => (desc_Put.l0 k (([t146, a0_1, a0_2, t147, t148] : List ByteArray)) l0_4 (l0_4.length : Int) 0)))
theorem desc_Put.mono_l : ∀ k, (∀ y0 y1 y2 y3, LeO (desc_Put.l0 k y0 y1 y2 y3) (desc_Put.l0 (k + 1) y0 y1 y2 y3))
 | 0 => fun _ _ _ _ r h => by simp [desc_Put.l0] at h
 | k + 1 => by
  have ih0 := desc_Put.mono_l k
  ·intro y0 y1 y2 y3
   unfold desc_Put.l0
   repeat' first
   | (with_reducible exact ih0 _ _ _ _)
   | (with_reducible exact LeO.refl _)
   | (with_reducible exact LeO.none _)
   | (with_reducible refine LeO.ite ?_ ?_)
   | (with_reducible refine LeO.bind ?_ (fun _ => ?_))
   | exact ih0 _ _ _ _
   | exact LeO.none _
   | refine LeO.ite ?_ ?_
   | refine LeO.bind ?_ (fun _ => ?_)
theorem desc_Put.mono : ∀ a0 a1 a2 a3 a4 a5 k, LeO (desc_Put.f k a0 a1 a2 a3 a4 a5) (desc_Put.f (k + 1) a0 a1 a2 a3 a4 a5) := by
 intro a0 a1 a2 a3 a4 a5 k
 have ih0 := desc_Put.mono_l k
 unfold desc_Put.f
 repeat' first
  | (with_reducible exact ih0 _ _ _ _)
  | (with_reducible exact LeO.refl _)
  | (with_reducible exact LeO.none _)
  | (with_reducible refine LeO.ite ?_ ?_)
  | (with_reducible refine LeO.bind ?_ (fun _ => ?_))
  | exact ih0 _ _ _ _
  | exact LeO.none _
  | refine LeO.ite ?_ ?_
  | refine LeO.bind ?_ (fun _ => ?_)
def desc_Put.T1 : Bool × List (List Nat × List Nat) := (true, [([], []), ([0], [0]), ([1], [1]), ([], []), ([3], [3]), ([4], [4]), ([], []), ([6], [6]), ([7], [7]), ([], []), ([9], [9]), ([10, 2], [10]), ([], []), ([12], [12]), ([13, 11], [13]), ([2, 5, 8, 11, 14], [2, 5, 8, 11, 14]), ([15, 14, 0, 1, 2, 3, 4, 5, 6, 7, 8, 9, 10, 11, 12, 13, 14, 15], [15])])
def desc_Put.B1 : List Nat := [0, 1, 3, 0, 8, 24, 0, 64, 192, 0, 512, 1543, 0, 4096, 15879, 32767, 65535]
theorem desc_Put.tab1 : rtab .any (opsOf Tryd.f19 1) = desc_Put.T1 := by kernel_rfl
theorem desc_Put.bits1 : waitsOk desc_Put.T1.2 desc_Put.B1 = true := by kernel_rfl
def desc_Put.T5 : Bool × List (List Nat × List Nat) := (true, [([], []), ([], []), ([1], [1]), ([2], [2]), ([], []), ([4], [4]), ([5, 3], [5]), ([3, 6], [3, 6]), ([0, 7, 6], [0, 7]), ([8, 8, 0, 1, 2, 3, 4, 5, 6, 7, 8], [0, 8])])
def desc_Put.B5 : List Nat := [0, 0, 2, 6, 0, 16, 62, 126, 255, 511]
theorem desc_Put.tab5 : rtab .any (opsOf Tryd.f19 5) = desc_Put.T5 := by kernel_rfl
theorem desc_Put.bits5 : waitsOk desc_Put.T5.2 desc_Put.B5 = true := by kernel_rfl
set_option maxHeartbeats 8000000 in
set_option maxRecDepth 100000 in
theorem desc_Put.calls (k : Nat) (a0_0 : Int) (a0_1 : ByteArray) (a0_2 : ByteArray) (a0_3 : Int) (A0_4 : Option Addr) (c0_4 : Nat) (l0_4 : List (S60)) (a0_5 : Int) (r : ByteArray) (w : World) (hG : TheG w) (hr0_4 : Kd.C k60 w A0_4 l0_4.length l0_4) (hc0_4 : l0_4.length ≤ c0_4) (h : desc_Put.f k a0_0 a0_1 a0_2 a0_3 l0_4 a0_5 = some r) :
 Calls Tryd.prog 19 #[.agg #[.int .i64 a0_0, .string a0_1, .string a0_2, .int .i64 a0_3, .slice A0_4 l0_4.length c0_4, .int .i64 a0_5]] w fun e w' => e = .returned (.string r) ∧ Below w.heap.size w w' := by
 have hu26 := Tryd.underlying26
 have hu60 := Tryd.underlying60
 have HR0_4 := Az.mk hr0_4
 have HC0_4 := Az.mk hc0_4
 clear hr0_4 hc0_4
 have HB := Az.mk (Below.refl w.heap.size w)
 have H : ((knot_Num.f a0_0).bind fun t146 => ((knot_Num.f a0_3).bind fun t147 => ((knot_Num.f a0_5).bind fun t148 => (desc_Put.l0 k (([t146, a0_1, a0_2, t147, t148] : List ByteArray)) l0_4 (l0_4.length : Int) 0)))) = some r := h
 clear h
 replace H := Option.bind_eq_some_iff.mp H
 obtain ⟨t146, A20, H⟩ := H
 try dsimp only at H
 have A2 := Az.mk A20
 clear A20
 replace H := Option.bind_eq_some_iff.mp H
 obtain ⟨t147, A30, H⟩ := H
 try dsimp only at H
 have A3 := Az.mk A30
 clear A30
 replace H := Option.bind_eq_some_iff.mp H
 obtain ⟨t148, A40, H⟩ := H
 try dsimp only at H
 have A4 := Az.mk A40
 clear A40
 obtain ⟨y149, hy149⟩ : ∃ y_ : List ByteArray, y_ = (([t146, a0_1, a0_2, t147, t148] : List ByteArray)) := ⟨_, rfl⟩
 replace H : (desc_Put.l0 k y149 l0_4 (l0_4.length : Int) 0) = some r := by first | (rw [hy149]; with_reducible exact H) | (have H2_ := (Option.bind_some _ _).symm.trans H; rw [hy149]; with_reducible exact H2_) | (have H2_ := (Option.bind_some _ _).symm.trans H; with_reducible exact H2_) | with_reducible exact H | (rw [hy149]; exact H) | exact H
 have Ny149 := Az.mk hy149
 clear hy149
 have H' := Az.mk H
 clear H
 go_enter Tryd.func19, Tryd.ntmps19
 try go_wp2_with (first | ((with_reducible refine gate_dst (N := 1) rfl ?_); refine box_event ?hg (N := 1) ?hd (cs := #[.int .i64 a0_0, .string a0_1, .string a0_2, .int .i64 a0_3, .slice A0_4 l0_4.length c0_4, .int .i64 a0_5]) (t := 26) ?hr ?_; (case hd => rfl); (case hg => rfl); (case hr => first | (go_simp; done) | (go_simp; rfl)); intro gb145 hg w5 hbox hb; have BK145 := Az.mk (hbox); have GW145 := Az.mk (geO hg (pbE HB.out)); have GE145 := Az.mk (geO hg (pbE HB.out)); replace HB := Az.mk (pbT (by exact pbE HB.out) hb); clear hb hbox hg))
 replace BK145 := Az.mk (bkD BK145.out)
 replace HB := Az.mk (pb1 HB.out)
 refine start_ (n := 17) (S := fun w' => w'.cell? ⟨gb145, 0, none⟩ = some (.int .i64 a0_0) ∧ w'.cell? ⟨gb145, 1, none⟩ = some (.string a0_1) ∧ w'.cell? ⟨gb145, 2, none⟩ = some (.string a0_2) ∧ w'.cell? ⟨gb145, 3, none⟩ = some (.int .i64 a0_3) ∧ w'.cell? ⟨gb145, 4, none⟩ = some (.slice A0_4 l0_4.length c0_4) ∧ w'.cell? ⟨gb145, 5, none⟩ = some (.int .i64 a0_5)) (ds := []) #[false, false, false, false, false, false, false, false, false, false, false, false, false, false, false, false, false] (by kernel_rfl) rfl rfl ⟨(bkC BK145.out 0).trans rfl, (bkC BK145.out 1).trans rfl, (bkC BK145.out 2).trans rfl, (bkC BK145.out 3).trans rfl, (bkC BK145.out 4).trans rfl, (bkC BK145.out 5).trans rfl⟩ (fun hHeld => ?_); refine with_tabW desc_Put.tab1 desc_Put.bits1 (fun HT_ HW_ => ?_)
 generalize w5.drew = w6 at BK145 HB hHeld ⊢
 refine pure_ (i := 0) (N := some 6) (v := ?_) (a' := ?_) #[true, false, false, false, false, false, false, false, false, false, false, false, false, false, false, false, false] rfl rfl (any_of HT_.out (by kernel_rfl)) (fun _ _ _ h => h) (Or.inl ⟨by rfl, ?_⟩) ?_ ?_
 rotate_left
 ·intro w'
  go_simp
  with_reducible rfl
 rotate_left
 ·simp only [Act.put, List.setIfInBounds_toArray, List.set_cons_zero, List.set_cons_succ, i64_w, i32_w]
  rfl
 refine pure_ (i := 3) (N := some 9) (v := ?_) (a' := ?_) #[true, false, false, true, false, false, false, false, false, false, false, false, false, false, false, false, false] rfl rfl (any_of HT_.out (by kernel_rfl)) (fun _ _ _ h => h) (Or.inl ⟨by rfl, ?_⟩) ?_ ?_
 rotate_left
 ·intro w'
  go_simp
  with_reducible rfl
 rotate_left
 ·simp only [Act.put, List.setIfInBounds_toArray, List.set_cons_zero, List.set_cons_succ, i64_w, i32_w]
  rfl
 refine pure_ (i := 4) (N := some 10) (v := ?_) (a' := ?_) #[true, false, false, true, true, false, false, false, false, false, false, false, false, false, false, false, false] rfl rfl (any_of HT_.out (by kernel_rfl)) (fun _ _ _ h => h) (Or.inl ⟨by rfl, ?_⟩) ?_ ?_
 rotate_left
 ·intro w'
  go_simp
  with_reducible rfl
 rotate_left
 ·simp only [Act.put, List.setIfInBounds_toArray, List.set_cons_zero, List.set_cons_succ, i64_w, i32_w]
  rfl
 refine pure_ (i := 6) (N := some 12) (v := ?_) (a' := ?_) #[true, false, false, true, true, false, true, false, false, false, false, false, false, false, false, false, false] rfl rfl (any_of HT_.out (by kernel_rfl)) (fun _ _ _ h => h) (Or.inl ⟨by rfl, ?_⟩) ?_ ?_
 rotate_left
 ·intro w'
  go_simp
  with_reducible rfl
 rotate_left
 ·simp only [Act.put, List.setIfInBounds_toArray, List.set_cons_zero, List.set_cons_succ, i64_w, i32_w]
  rfl
 refine pure_ (i := 7) (N := some 13) (v := ?_) (a' := ?_) #[true, false, false, true, true, false, true, true, false, false, false, false, false, false, false, false, false] rfl rfl (any_of HT_.out (by kernel_rfl)) (fun _ _ _ h => h) (Or.inl ⟨by rfl, ?_⟩) ?_ ?_
 rotate_left
 ·intro w'
  go_simp
  with_reducible rfl
 rotate_left
 ·simp only [Act.put, List.setIfInBounds_toArray, List.set_cons_zero, List.set_cons_succ, i64_w, i32_w]
  rfl
 refine pure_ (i := 9) (N := some 15) (v := ?_) (a' := ?_) #[true, false, false, true, true, false, true, true, false, true, false, false, false, false, false, false, false] rfl rfl (any_of HT_.out (by kernel_rfl)) (fun _ _ _ h => h) (Or.inl ⟨by rfl, ?_⟩) ?_ ?_
 rotate_left
 ·intro w'
  go_simp
  with_reducible rfl
 rotate_left
 ·simp only [Act.put, List.setIfInBounds_toArray, List.set_cons_zero, List.set_cons_succ, i64_w, i32_w]
  rfl
 refine pure_ (i := 12) (N := some 18) (v := ?_) (a' := ?_) #[true, false, false, true, true, false, true, true, false, true, false, false, true, false, false, false, false] rfl rfl (any_of HT_.out (by kernel_rfl)) (fun _ _ _ h => h) (Or.inl ⟨by rfl, ?_⟩) ?_ ?_
 rotate_left
 ·intro w'
  go_simp
  with_reducible rfl
 rotate_left
 ·simp only [Act.put, List.setIfInBounds_toArray, List.set_cons_zero, List.set_cons_succ, i64_w, i32_w]
  rfl
 refine take_ (i := 1) (N := some 7) (v := ?_) (a' := ?_) #[true, true, false, true, true, false, true, true, false, true, false, false, true, false, false, false, false] rfl rfl (take_ofW HT_.out HW_.out (by kernel_rfl)) (fun _ _ _ h => h) (Or.inl ⟨by rfl, ?_⟩) hHeld ?_ ?_
 rotate_left
 ·rintro w' ⟨s0, s1, s2, s3, s4, s5⟩
  go_simp
  with_reducible rfl
 rotate_left
 ·simp only [Act.put, List.setIfInBounds_toArray, List.set_cons_zero, List.set_cons_succ, i64_w, i32_w]
  rfl
 refine take_ (i := 5) (N := some 11) (v := ?_) (a' := ?_) #[true, true, false, true, true, true, true, true, false, true, false, false, true, false, false, false, false] rfl rfl (take_ofW HT_.out HW_.out (by kernel_rfl)) (fun _ _ _ h => h) (Or.inl ⟨by rfl, ?_⟩) hHeld ?_ ?_
 rotate_left
 ·rintro w' ⟨s0, s1, s2, s3, s4, s5⟩
  go_simp
  with_reducible rfl
 rotate_left
 ·simp only [Act.put, List.setIfInBounds_toArray, List.set_cons_zero, List.set_cons_succ, i64_w, i32_w]
  rfl
 refine take_ (i := 8) (N := some 14) (v := ?_) (a' := ?_) #[true, true, false, true, true, true, true, true, true, true, false, false, true, false, false, false, false] rfl rfl (take_ofW HT_.out HW_.out (by kernel_rfl)) (fun _ _ _ h => h) (Or.inl ⟨by rfl, ?_⟩) hHeld ?_ ?_
 rotate_left
 ·rintro w' ⟨s0, s1, s2, s3, s4, s5⟩
  go_simp
  with_reducible rfl
 rotate_left
 ·simp only [Act.put, List.setIfInBounds_toArray, List.set_cons_zero, List.set_cons_succ, i64_w, i32_w]
  rfl
 refine take_ (i := 10) (N := some 16) (v := ?_) (a' := ?_) #[true, true, false, true, true, true, true, true, true, true, true, false, true, false, false, false, false] rfl rfl (take_ofW HT_.out HW_.out (by kernel_rfl)) (fun _ _ _ h => h) (Or.inl ⟨by rfl, ?_⟩) hHeld ?_ ?_
 rotate_left
 ·rintro w' ⟨s0, s1, s2, s3, s4, s5⟩
  go_simp
  with_reducible rfl
 rotate_left
 ·simp only [Act.put, List.setIfInBounds_toArray, List.set_cons_zero, List.set_cons_succ, i64_w, i32_w]
  rfl
 refine take_ (i := 13) (N := some 19) (v := ?_) (a' := ?_) #[true, true, false, true, true, true, true, true, true, true, true, false, true, true, false, false, false] rfl rfl (take_ofW HT_.out HW_.out (by kernel_rfl)) (fun _ _ _ h => h) (Or.inl ⟨by rfl, ?_⟩) hHeld ?_ ?_
 rotate_left
 ·rintro w' ⟨s0, s1, s2, s3, s4, s5⟩
  go_simp
  with_reducible rfl
 rotate_left
 ·simp only [Act.put, List.setIfInBounds_toArray, List.set_cons_zero, List.set_cons_succ, i64_w, i32_w]
  rfl
 refine one_ (i := 2) (N := some 8) #[true, true, true, true, true, true, true, true, true, true, true, false, true, true, false, false, false] rfl rfl (one_of HT_.out (by kernel_rfl)) (by decide) (fun K hK => ?_)
 refine goes_ Tryd.func40 (by kernel_rfl) rfl #[.int .i64 a0_0] (by rfl) rfl rfl (by (try simp only [List.map_toArray, List.map_cons, List.map_nil]); first | done | rfl | (simp only [List.length_drop, List.length_take]; rfl)) ?_
 with_reducible refine (knot_Num.calls a0_0 t146 _ ?side1 A2.out).mono ?_
 (case side1 => exact hG.below (by exact pbE HB.out))
 rintro e w7 ⟨rfl, hb⟩
 refine ⟨_, rfl, ?_⟩
 replace BK145 := Az.mk (bkB (bk BK145.out) hb)
 replace HB := Az.mk (pbT (by exact pbE HB.out) hb)
 (try clear hb)
 (try clear hb2)
 (try clear hk)
 (try clear hi)
 refine hK.out _ _ ⟨(bkC BK145.out 0).trans rfl, (bkC BK145.out 1).trans rfl, (bkC BK145.out 2).trans rfl, (bkC BK145.out 3).trans rfl, (bkC BK145.out 4).trans rfl, (bkC BK145.out 5).trans rfl⟩ (fun hHeld => ?_)
 clear hK K
 refine norm_ (a' := ?_) ?_ ?_
 rotate_left
 ·show Act.put _ (some 8) _ = _
  simp only [Act.put, List.setIfInBounds_toArray, List.set_cons_zero, List.set_cons_succ, i64_w, i32_w]
  rfl
 refine one_ (i := 11) (N := some 17) #[true, true, true, true, true, true, true, true, true, true, true, true, true, true, false, false, false] rfl rfl (one_of HT_.out (by kernel_rfl)) (by decide) (fun K hK => ?_)
 refine goes_ Tryd.func40 (by kernel_rfl) rfl #[.int .i64 a0_3] (by rfl) rfl rfl (by (try simp only [List.map_toArray, List.map_cons, List.map_nil]); first | done | rfl | (simp only [List.length_drop, List.length_take]; rfl)) ?_
 with_reducible refine (knot_Num.calls a0_3 t147 _ ?side1 A3.out).mono ?_
 (case side1 => exact hG.below (by exact pbE HB.out))
 rintro e w8 ⟨rfl, hb⟩
 refine ⟨_, rfl, ?_⟩
 replace BK145 := Az.mk (bkB (bk BK145.out) hb)
 replace HB := Az.mk (pbT (by exact pbE HB.out) hb)
 (try clear hb)
 (try clear hb2)
 (try clear hk)
 (try clear hi)
 refine hK.out _ _ ⟨(bkC BK145.out 0).trans rfl, (bkC BK145.out 1).trans rfl, (bkC BK145.out 2).trans rfl, (bkC BK145.out 3).trans rfl, (bkC BK145.out 4).trans rfl, (bkC BK145.out 5).trans rfl⟩ (fun hHeld => ?_)
 clear hK K
 refine norm_ (a' := ?_) ?_ ?_
 rotate_left
 ·show Act.put _ (some 17) _ = _
  simp only [Act.put, List.setIfInBounds_toArray, List.set_cons_zero, List.set_cons_succ, i64_w, i32_w]
  rfl
 refine one_ (i := 14) (N := some 20) #[true, true, true, true, true, true, true, true, true, true, true, true, true, true, true, false, false] rfl rfl (one_of HT_.out (by kernel_rfl)) (by decide) (fun K hK => ?_)
 refine goes_ Tryd.func40 (by kernel_rfl) rfl #[.int .i64 a0_5] (by rfl) rfl rfl (by (try simp only [List.map_toArray, List.map_cons, List.map_nil]); first | done | rfl | (simp only [List.length_drop, List.length_take]; rfl)) ?_
 with_reducible refine (knot_Num.calls a0_5 t148 _ ?side1 A4.out).mono ?_
 (case side1 => exact hG.below (by exact pbE HB.out))
 rintro e w9 ⟨rfl, hb⟩
 refine ⟨_, rfl, ?_⟩
 replace BK145 := Az.mk (bkB (bk BK145.out) hb)
 replace HB := Az.mk (pbT (by exact pbE HB.out) hb)
 (try clear hb)
 (try clear hb2)
 (try clear hk)
 (try clear hi)
 refine hK.out _ _ ⟨(bkC BK145.out 0).trans rfl, (bkC BK145.out 1).trans rfl, (bkC BK145.out 2).trans rfl, (bkC BK145.out 3).trans rfl, (bkC BK145.out 4).trans rfl, (bkC BK145.out 5).trans rfl⟩ (fun hHeld => ?_)
 clear hK K
 refine norm_ (a' := ?_) ?_ ?_
 rotate_left
 ·show Act.put _ (some 20) _ = _
  simp only [Act.put, List.setIfInBounds_toArray, List.set_cons_zero, List.set_cons_succ, i64_w, i32_w]
  rfl
 refine one_ (i := 15) (N := some 21) #[true, true, true, true, true, true, true, true, true, true, true, true, true, true, true, true, false] rfl rfl (one_of HT_.out (by kernel_rfl)) (by decide) (fun K hK => ?_)
 refine Kd.R_lit_step Kd.string _ 9 ?hg (N := 21) ?hd (xs := ([t146, a0_1, a0_2, t147, t148] : List ByteArray)) (inner := [.string t146, .string a0_1, .string a0_2, .string t147, .string t148]) (ok := fun _ => True) (okp := fun _ => True) ?hr ?hp (fun _ hk => hk) trivial (Below.refl _ _) (Nat.le_refl _) (by simp) ?_; (case hd => rfl); (case hg => rfl); (case hr => first | (go_simp; done) | (go_simp; rfl)); (case hp => exact (Reps.one (show Kd.M Kd.string _ _ _ t146 [.string t146] from rfl) (Reps.one (show Kd.M Kd.string _ _ _ a0_1 [.string a0_1] from rfl) (Reps.one (show Kd.M Kd.string _ _ _ a0_2 [.string a0_2] from rfl) (Reps.one (show Kd.M Kd.string _ _ _ t147 [.string t147] from rfl) (Reps.one (show Kd.M Kd.string _ _ _ t148 [.string t148] from rfl) (Reps.none _ _)))))))
 intro v150 w10 ho11 hb hg_ hnew_
 clear hg_ hnew_
 (first | rw [← Ny149.out] at ho11 | (simp only [Int.reduceToNat] at ho11; rw [← Ny149.out] at ho11))
 have HO151 := Az.mk (Kd.R_lower ho11 (pbZ (by exact pbE HB.out)))
 replace BK145 := Az.mk (bkB (bk BK145.out) hb)
 replace HB := Az.mk (pbT (by exact pbE HB.out) hb)
 clear hb ho11
 refine hK.out _ _ ⟨(bkC BK145.out 0).trans rfl, (bkC BK145.out 1).trans rfl, (bkC BK145.out 2).trans rfl, (bkC BK145.out 3).trans rfl, (bkC BK145.out 4).trans rfl, (bkC BK145.out 5).trans rfl⟩ (fun hHeld => ?_)
 clear hK K
 refine norm_ (a' := ?_) ?_ ?_
 rotate_left
 ·show Act.put _ (some 21) _ = _
  simp only [Act.put, List.setIfInBounds_toArray, List.set_cons_zero, List.set_cons_succ, i64_w, i32_w]
  rfl
 refine pure_ (i := 16) (N := some 3) (v := ?_) (a' := ?_) #[true, true, true, true, true, true, true, true, true, true, true, true, true, true, true, true, true] rfl rfl (any_of HT_.out (by kernel_rfl)) (fun _ _ _ h => h) (Or.inl ⟨by rfl, ?_⟩) ?_ ?_
 rotate_left
 ·intro w'
  go_simp
  with_reducible rfl
 rotate_left
 ·simp only [Act.put, List.setIfInBounds_toArray, List.set_cons_zero, List.set_cons_succ, i64_w, i32_w]
  rfl
 refine done_ (done_of HT_.out (by kernel_rfl)) ?_
 have hcz12 := cells6 BK145.out
 try go_wp2
 go_loopg [3, 25] k (fun kq v3 v25 w' => ∃ (x3_1 : List ByteArray) (x25_1 : Int), v25 = .int .i64 x25_1 ∧ Az (desc_Put.l0 kq x3_1 l0_4 (l0_4.length : Int) x25_1 = some r) ∧ Az (kq ≤ k) ∧ Az (Kd.R Kd.string 9 w' w.heap.size (fun _ => True) v3 x3_1) ∧ Az (w'.heap[gb145]? = some (.cells #[.int .i64 a0_0, .string a0_1, .string a0_2, .int .i64 a0_3, (.slice A0_4 l0_4.length c0_4), .int .i64 a0_5] 26 (0, 0))) ∧ Az (Below w.heap.size w w'))
 case atStart => exact ⟨(y149), (0), (by first | rfl | (simp; done) | (simp [*]; done)), H', ⟨Nat.le_refl _⟩, ⟨by (with_reducible repeat (first | apply Kd.R_alloc | apply Kd.R_drewN | apply Kd.R_drew)); exact HO151.out⟩, ⟨by refine bk ?_; exact BK145.out⟩, ⟨by exact pbE HB.out⟩⟩
 case round =>
  clear H'
  try clear c1
  try clear p2
  try clear c4
  try clear hcz12
  obtain ⟨x3_1, x25_1, rfl, HA, HK1, HO_3, BK145, HB⟩ := hrel
  cases gk with
  | zero => exact absurd HA.out (by simp [desc_Put.l0])
  | succ k1 =>
   have H := HA.out
   clear HA
   simp only [desc_Put.l0] at H
   by_cases c13 : x25_1 < (l0_4.length : Int)
   ·rw [if_pos c13] at H
    have c13b0 : decide (x25_1 < (l0_4.length : Int)) = true := decide_eq_true c13
    clear c13
    by_cases c14 : 0 ≤ x25_1
    ·rw [if_pos c14] at H
     have c14b0 : decide (0 ≤ x25_1) = true := decide_eq_true c14
     clear c14
     by_cases c15 : x25_1 < (l0_4.length : Int)
     ·rw [if_pos c15] at H
      have c15b0 : decide (x25_1 < (l0_4.length : Int)) = true := decide_eq_true c15
      clear c15
      replace H := Option.bind_eq_some_iff.mp H
      obtain ⟨t154, A160, H⟩ := H
      try dsimp only at H
      have A16 := Az.mk A160
      clear A160
      replace H := Option.bind_eq_some_iff.mp H
      obtain ⟨t155, A170, H⟩ := H
      try dsimp only at H
      have A17 := Az.mk A170
      clear A170
      obtain ⟨y156, hy156⟩ : ∃ y_ : List ByteArray, y_ = (([t154, t155] : List ByteArray)) := ⟨_, rfl⟩
      replace H : (if x3_1.length + y156.length < 8796093022208 then (desc_Put.l0 k1 (x3_1 ++ y156) l0_4 (l0_4.length : Int) (wrap64 (x25_1 + 1))) else (none)) = some r := by first | (rw [hy156]; with_reducible exact H) | (have H2_ := (Option.bind_some _ _).symm.trans H; rw [hy156]; with_reducible exact H2_) | (have H2_ := (Option.bind_some _ _).symm.trans H; with_reducible exact H2_) | with_reducible exact H | (rw [hy156]; exact H) | exact H
      have Ny156 := Az.mk hy156
      clear hy156
      by_cases c18 : x3_1.length + y156.length < 8796093022208
      ·rw [if_pos c18] at H
       have LMc18 := Az.mk c18
       clear c18
       obtain ⟨y159, hy159⟩ : ∃ y_ : List ByteArray, y_ = (x3_1 ++ y156) := ⟨_, rfl⟩
       replace H : (desc_Put.l0 k1 y159 l0_4 (l0_4.length : Int) (wrap64 (x25_1 + 1))) = some r := by first | (rw [hy159]; with_reducible exact H) | (have H2_ := (Option.bind_some _ _).symm.trans H; rw [hy159]; with_reducible exact H2_) | (have H2_ := (Option.bind_some _ _).symm.trans H; with_reducible exact H2_) | with_reducible exact H | (rw [hy159]; exact H) | exact H
       have Ny159 := Az.mk hy159
       clear hy159
       have H' := Az.mk H
       clear H
       have p152 : 0 ≤ (x25_1 : Int) := of_decide_eq_true (by first | (with_reducible assumption) | assumption)
       have q152 : x25_1 < (l0_4.length : Int) := of_decide_eq_true (by first | (with_reducible assumption) | assumption)
       obtain ⟨ad152, e152, hx152_0, hx152_1⟩ := at_T60 HR0_4.out x25_1 p152 q152
       cases e152
       replace hx152_0 := (HB.out.cell (World.block_lt_of_cell? w _ hx152_0)).trans hx152_0
       replace hx152_1 := (HB.out.cell (World.block_lt_of_cell? w _ hx152_1)).trans hx152_1
       replace p152 := eq_true p152
       replace q152 := eq_true q152
       try go_wp2_with (first | ((with_reducible refine gate_dst (N := 5) rfl ?_); refine box_event ?hg (N := 5) ?hd (cs := #[.int .i64 0, .int .i64 0]) (t := 60) ?hr ?_; (case hd => rfl); (case hg => rfl); (case hr => first | (go_simp; done) | (go_simp; rfl)); intro gb153 hg w19 hbox hb; replace HO_3 := Az.mk (Kd.R_below (Kd.R_ext HO_3.out) hb); have BK153 := Az.mk (hbox); have GW153 := Az.mk (geO hg (pbE HB.out)); have GE153 := Az.mk (geO hg (pbE HB.out)); replace HB := Az.mk (pbT (by exact pbE HB.out) hb); have NB145_153 := Az.mk (neO hg (bk BK145.out)); have NB153_145 := Az.mk (neP hg (bk BK145.out)); replace BK145 := Az.mk (bkB (bk BK145.out) hb); clear hb hbox hg; have hnb20 := NB153_145.out; have hnc20 := NB145_153.out; have hcz21 := cells2 BK153.out))
       have n0_ : Az (Kd.R Kd.string 9 ((w19.setCell ⟨gb153, 0, none⟩ (.int .i64 ((rd_T60 l0_4 x25_1).f0))).setCell ⟨gb153, 1, none⟩ (.int .i64 ((rd_T60 l0_4 x25_1).f1))) w.heap.size (fun _ => True) u3 x3_1) := ⟨by (with_reducible repeat (first | apply Kd.R_alloc | apply Kd.R_drewN | apply Kd.R_drew)); exact Kd.R_mono (Kd.R_far (p := ⟨gb153, 1, none⟩) (Kd.R_far (p := ⟨gb153, 0, none⟩) (Kd.R_types HO_3.out BK153.out (by decide)) (fun _ hk => hk.2) (.int .i64 ((rd_T60 l0_4 x25_1).f0))) (fun _ hk => hk.2) (.int .i64 ((rd_T60 l0_4 x25_1).f1))) (fun _ hk => trivial)⟩
       have n1_ : Az (((w19.setCell ⟨gb153, 0, none⟩ (.int .i64 ((rd_T60 l0_4 x25_1).f0))).setCell ⟨gb153, 1, none⟩ (.int .i64 ((rd_T60 l0_4 x25_1).f1))).heap[gb145]? = some (.cells #[.int .i64 a0_0, .string a0_1, .string a0_2, .int .i64 a0_3, .slice (some ad152) l0_4.length c0_4, .int .i64 a0_5] 26 (0, 0))) := ⟨by exact bf BK145.out⟩
       have n2_ : Az (((w19.setCell ⟨gb153, 0, none⟩ (.int .i64 ((rd_T60 l0_4 x25_1).f0))).setCell ⟨gb153, 1, none⟩ (.int .i64 ((rd_T60 l0_4 x25_1).f1))).heap[gb153]? = some (.cells #[.int .i64 ((rd_T60 l0_4 x25_1).f0), .int .i64 ((rd_T60 l0_4 x25_1).f1)] 60 (0, 0))) := ⟨by refine bk ?_; refine blk_put (cs := #[.int .i64 ((rd_T60 l0_4 x25_1).f0), .int .i64 0]) ?_ 1 _ rfl; refine bk ?_; refine blk_put (cs := #[.int .i64 0, .int .i64 0]) ?_ 0 _ rfl; refine bk ?_; exact BK153.out⟩
       have n3_ : Az (Below w.heap.size w ((w19.setCell ⟨gb153, 0, none⟩ (.int .i64 ((rd_T60 l0_4 x25_1).f0))).setCell ⟨gb153, 1, none⟩ (.int .i64 ((rd_T60 l0_4 x25_1).f1)))) := ⟨by exact pbE HB.out⟩
       (try clear HO_3)
       (try clear BK145)
       (try clear BK153)
       (try clear HB)
       generalize ((w19.setCell ⟨gb153, 0, none⟩ (.int .i64 ((rd_T60 l0_4 x25_1).f0))).setCell ⟨gb153, 1, none⟩ (.int .i64 ((rd_T60 l0_4 x25_1).f1))) = w22 at n0_ n1_ n2_ n3_ ⊢
       have HO_3 := n0_
       have BK145 := n1_
       have BK153 := n2_
       have HB := n3_
       clear n0_ n1_ n2_ n3_
       replace HO_3 := Az.mk (Kd.R_drew HO_3.out)
       replace BK145 := Az.mk (bkD BK145.out)
       replace BK153 := Az.mk (bkD BK153.out)
       replace HB := Az.mk (pb1 HB.out)
       refine start_ (n := 10) (S := fun w' => w'.cell? ⟨gb153, 0, none⟩ = some (.int .i64 ((rd_T60 l0_4 x25_1).f0)) ∧ w'.cell? ⟨gb153, 1, none⟩ = some (.int .i64 ((rd_T60 l0_4 x25_1).f1))) (ds := []) #[false, false, false, false, false, false, false, false, false, false] (by kernel_rfl) rfl rfl ⟨(bkC BK153.out 0).trans rfl, (bkC BK153.out 1).trans rfl⟩ (fun hHeld => ?_); refine with_tabW desc_Put.tab5 desc_Put.bits5 (fun HT_ HW_ => ?_)
       generalize w22.drew = w23 at HO_3 BK145 BK153 HB hHeld ⊢
       refine pure_ (i := 0) (N := some 29) (v := ?_) (a' := ?_) #[true, false, false, false, false, false, false, false, false, false] rfl rfl (any_of HT_.out (by kernel_rfl)) (fun _ _ _ h => h) (Or.inl ⟨by rfl, ?_⟩) ?_ ?_
       rotate_left
       ·intro w'
        go_simp
        with_reducible rfl
       rotate_left
       ·simp only [Act.put, List.setIfInBounds_toArray, List.set_cons_zero, List.set_cons_succ, i64_w, i32_w]
        rfl
       refine pure_ (i := 1) (N := some 30) (v := ?_) (a' := ?_) #[true, true, false, false, false, false, false, false, false, false] rfl rfl (any_of HT_.out (by kernel_rfl)) (fun _ _ _ h => h) (Or.inl ⟨by rfl, ?_⟩) ?_ ?_
       rotate_left
       ·intro w'
        go_simp
        with_reducible rfl
       rotate_left
       ·simp only [Act.put, List.setIfInBounds_toArray, List.set_cons_zero, List.set_cons_succ, i64_w, i32_w]
        rfl
       refine pure_ (i := 4) (N := some 33) (v := ?_) (a' := ?_) #[true, true, false, false, true, false, false, false, false, false] rfl rfl (any_of HT_.out (by kernel_rfl)) (fun _ _ _ h => h) (Or.inl ⟨by rfl, ?_⟩) ?_ ?_
       rotate_left
       ·intro w'
        go_simp
        with_reducible rfl
       rotate_left
       ·simp only [Act.put, List.setIfInBounds_toArray, List.set_cons_zero, List.set_cons_succ, i64_w, i32_w]
        rfl
       refine take_ (i := 2) (N := some 31) (v := ?_) (a' := ?_) #[true, true, true, false, true, false, false, false, false, false] rfl rfl (take_ofW HT_.out HW_.out (by kernel_rfl)) (fun _ _ _ h => h) (Or.inl ⟨by rfl, ?_⟩) hHeld ?_ ?_
       rotate_left
       ·rintro w' ⟨s0, s1⟩
        go_simp
        with_reducible rfl
       rotate_left
       ·simp only [Act.put, List.setIfInBounds_toArray, List.set_cons_zero, List.set_cons_succ, i64_w, i32_w]
        rfl
       refine take_ (i := 5) (N := some 34) (v := ?_) (a' := ?_) #[true, true, true, false, true, true, false, false, false, false] rfl rfl (take_ofW HT_.out HW_.out (by kernel_rfl)) (fun _ _ _ h => h) (Or.inl ⟨by rfl, ?_⟩) hHeld ?_ ?_
       rotate_left
       ·rintro w' ⟨s0, s1⟩
        go_simp
        with_reducible rfl
       rotate_left
       ·simp only [Act.put, List.setIfInBounds_toArray, List.set_cons_zero, List.set_cons_succ, i64_w, i32_w]
        rfl
       refine one_ (i := 3) (N := some 32) #[true, true, true, true, true, true, false, false, false, false] rfl rfl (one_of HT_.out (by kernel_rfl)) (by decide) (fun K hK => ?_)
       refine goes_ Tryd.func40 (by kernel_rfl) rfl #[.int .i64 ((rd_T60 l0_4 x25_1).f0)] (by rfl) rfl rfl (by (try simp only [List.map_toArray, List.map_cons, List.map_nil]); first | done | rfl | (simp only [List.length_drop, List.length_take]; rfl)) ?_
       with_reducible refine (knot_Num.calls ((rd_T60 l0_4 x25_1).f0) t154 _ ?side1 A16.out).mono ?_
       (case side1 => exact hG.below (by exact pbE HB.out))
       rintro e w24 ⟨rfl, hb⟩
       refine ⟨_, rfl, ?_⟩
       replace HO_3 := Az.mk (Kd.R_below (Kd.R_ext HO_3.out) hb)
       replace BK145 := Az.mk (bkB (bk BK145.out) hb)
       replace BK153 := Az.mk (bkB (bk BK153.out) hb)
       replace HB := Az.mk (pbT (by exact pbE HB.out) hb)
       (try clear hb)
       (try clear hb2)
       (try clear hk)
       (try clear hi)
       refine hK.out _ _ ⟨(bkC BK153.out 0).trans rfl, (bkC BK153.out 1).trans rfl⟩ (fun hHeld => ?_)
       clear hK K
       refine norm_ (a' := ?_) ?_ ?_
       rotate_left
       ·show Act.put _ (some 32) _ = _
        simp only [Act.put, List.setIfInBounds_toArray, List.set_cons_zero, List.set_cons_succ, i64_w, i32_w]
        rfl
       refine one_ (i := 6) (N := some 35) #[true, true, true, true, true, true, true, false, false, false] rfl rfl (one_of HT_.out (by kernel_rfl)) (by decide) (fun K hK => ?_)
       refine goes_ Tryd.func40 (by kernel_rfl) rfl #[.int .i64 ((rd_T60 l0_4 x25_1).f1)] (by rfl) rfl rfl (by (try simp only [List.map_toArray, List.map_cons, List.map_nil]); first | done | rfl | (simp only [List.length_drop, List.length_take]; rfl)) ?_
       with_reducible refine (knot_Num.calls ((rd_T60 l0_4 x25_1).f1) t155 _ ?side1 A17.out).mono ?_
       (case side1 => exact hG.below (by exact pbE HB.out))
       rintro e w25 ⟨rfl, hb⟩
       refine ⟨_, rfl, ?_⟩
       replace HO_3 := Az.mk (Kd.R_below (Kd.R_ext HO_3.out) hb)
       replace BK145 := Az.mk (bkB (bk BK145.out) hb)
       replace BK153 := Az.mk (bkB (bk BK153.out) hb)
       replace HB := Az.mk (pbT (by exact pbE HB.out) hb)
       (try clear hb)
       (try clear hb2)
       (try clear hk)
       (try clear hi)
       refine hK.out _ _ ⟨(bkC BK153.out 0).trans rfl, (bkC BK153.out 1).trans rfl⟩ (fun hHeld => ?_)
       clear hK K
       refine norm_ (a' := ?_) ?_ ?_
       rotate_left
       ·show Act.put _ (some 35) _ = _
        simp only [Act.put, List.setIfInBounds_toArray, List.set_cons_zero, List.set_cons_succ, i64_w, i32_w]
        rfl
       refine one_ (i := 7) (N := some 36) #[true, true, true, true, true, true, true, true, false, false] rfl rfl (one_of HT_.out (by kernel_rfl)) (by decide) (fun K hK => ?_)
       refine Kd.R_lit_step Kd.string _ 9 ?hg (N := 36) ?hd (xs := ([t154, t155] : List ByteArray)) (inner := [.string t154, .string t155]) (ok := fun _ => True) (okp := fun _ => True) ?hr ?hp (fun _ hk => hk) trivial (Below.refl _ _) (Nat.le_refl _) (by simp) ?_; (case hd => rfl); (case hg => rfl); (case hr => first | (go_simp; done) | (go_simp; rfl)); (case hp => exact (Reps.one (show Kd.M Kd.string _ _ _ t154 [.string t154] from rfl) (Reps.one (show Kd.M Kd.string _ _ _ t155 [.string t155] from rfl) (Reps.none _ _))))
       intro v157 w26 ho27 hb hg_ hnew_
       clear hg_ hnew_
       (first | rw [← Ny156.out] at ho27 | (simp only [Int.reduceToNat] at ho27; rw [← Ny156.out] at ho27))
       have HO158 := Az.mk (Kd.R_lower (Kd.R_new' ho27 (Kd.R_lt (Kd.R_ext HO_3.out))) (pbZ (by exact pbE HB.out)))
       replace HO_3 := Az.mk (Kd.R_elder' (Kd.R_ext HO_3.out) (Kd.R_base ho27) hb)
       replace BK145 := Az.mk (bkB (bk BK145.out) hb)
       replace BK153 := Az.mk (bkB (bk BK153.out) hb)
       replace HB := Az.mk (pbT (by exact pbE HB.out) hb)
       clear hb ho27
       obtain ⟨Ao29, co29, eo29⟩ := Kd.R_slice HO158.out
       (first | subst eo29 | (injection eo29 with f1_ f2_ f3_; have f4_ := f1_.symm; have f5_ := f3_.symm; clear f1_ f2_ f3_; subst f4_; subst f5_))
       refine hK.out _ _ ⟨(bkC BK153.out 0).trans rfl, (bkC BK153.out 1).trans rfl⟩ (fun hHeld => ?_)
       clear hK K
       refine norm_ (a' := ?_) ?_ ?_
       rotate_left
       ·show Act.put _ (some 36) _ = _
        simp only [Act.put, List.setIfInBounds_toArray, List.set_cons_zero, List.set_cons_succ, i64_w, i32_w]
        rfl
       refine one_ (i := 8) (N := some 37) #[true, true, true, true, true, true, true, true, true, false] rfl rfl (one_of HT_.out (by kernel_rfl)) (by decide) (fun K hK => ?_)
       refine Kd.R_append_rows_step Kd.string (w0 := w) w.heap.size (by rfl) (.tmp 29) (.tmp 36) 79 9 (.string ⟨#[]⟩) 16 rfl Tryd.underlying79 info9 rfl (by decide) (by omega) u3 x3_1 y156 _ _ _ (fun k_ => some k_ ≠ (.slice Ao29 y156.length co29 : Value).ownBlock) (fun _ => False) rfl rfl ?aO ?aR (fun _ _ h => h) (fun _ h => h.elim) ?aF ?aB ?aS ?aL ?_
       (case aR => exact Kd.C_ext (Kd.R_reads' HO158.out).2.2)
       (case aB => exact (by exact pbE HB.out))
       (case aF => exact (fun k_ hk => Kd.fresh' (Kd.R_lt (Kd.R_ext HO158.out)) k_ hk))
       (case aO => exact (by (with_reducible repeat (first | apply Kd.R_alloc | apply Kd.R_drewN | apply Kd.R_drew)); exact Kd.R_mono HO_3.out (fun _ hk => hk.2)))
       (case aS => exact (pbZ (by exact pbE HB.out)))
       (case aL => have := LMc18.out; omega)
       intro v160 w28 ho hb hg hat
       rw [← Ny159.out] at ho
       replace BK145 := Az.mk (blk_grown (bk BK145.out) hg (Kd.R_ne HO_3.out BK145.out (by decide)))
       replace BK153 := Az.mk (blk_grown (bk BK153.out) hg (Kd.R_ne HO_3.out BK153.out (by decide)))
       replace HO158 := Az.mk (Kd.R_after (ok := (fun _ => True)) (Kd.R_ext HO158.out) hg hat)
       replace HB := Az.mk (hb)
       have HO161 := Az.mk (ho)
       clear HO_3
       clear ho hb hg hat
       refine hK.out _ _ ⟨(bkC BK153.out 0).trans rfl, (bkC BK153.out 1).trans rfl⟩ (fun hHeld => ?_)
       clear hK K
       refine norm_ (a' := ?_) ?_ ?_
       rotate_left
       ·show Act.put _ (some 37) _ = _
        simp only [Act.put, List.setIfInBounds_toArray, List.set_cons_zero, List.set_cons_succ, i64_w, i32_w]
        rfl
       refine pure_ (i := 9) (N := some 3) (v := ?_) (a' := ?_) #[true, true, true, true, true, true, true, true, true, true] rfl rfl (any_of HT_.out (by kernel_rfl)) (fun _ _ _ h => h) (Or.inl ⟨by rfl, ?_⟩) ?_ ?_
       rotate_left
       ·intro w'
        go_simp
        with_reducible rfl
       rotate_left
       ·simp only [Act.put, List.setIfInBounds_toArray, List.set_cons_zero, List.set_cons_succ, i64_w, i32_w]
        rfl
       refine done_ (done_of HT_.out (by kernel_rfl)) ?_
       try go_wp2
       go_roundg k1
       case measure => have := HK1.out; omega
       case rel => exact ⟨(y159), (wrap64 (x25_1 + 1)), (by first | rfl | (simp; done) | (simp [*]; done)), H', ⟨by have := HK1.out; omega⟩, ⟨by (with_reducible repeat (first | apply Kd.R_alloc | apply Kd.R_drewN | apply Kd.R_drew)); exact Kd.R_mono HO161.out (fun _ hk => trivial)⟩, ⟨by refine bk ?_; exact BK145.out⟩, ⟨by exact pbE HB.out⟩⟩
      ·rw [if_neg c18] at H
       exact absurd H (by simp)
     ·rw [if_neg c15] at H
      exact absurd H (by simp)
    ·rw [if_neg c14] at H
     exact absurd H (by simp)
   ·rw [if_neg c13] at H
    have c13b0 : decide (x25_1 < (l0_4.length : Int)) = false := decide_eq_false c13
    clear c13
    replace H := Option.bind_eq_some_iff.mp H
    obtain ⟨t162, A300, H⟩ := H
    replace H : (some t162) = some r := H
    have A30 := Az.mk A300
    clear A300
    obtain rfl := Option.some.inj H
    obtain ⟨Ao31, co31, eo31⟩ := Kd.R_slice HO_3.out
    subst eo31
    go_wp2_with (first | ((with_reducible refine gtc (f := 41) rfl ?_); refine goesL_ (some 40) rfl rfl Tryd.func41 (by kernel_rfl) rfl #[.slice Ao31 x3_1.length co31] rfl (by (try simp only [List.map_toArray, List.map_cons, List.map_nil]); first | done | rfl | (simp only [List.length_drop, List.length_take]; rfl)) ?_; (with_reducible refine (knot_Tie.calls _ _ x3_1 t162 _ ?side1 ?side2 ?side3 A30.out).mono ?_); (case side1 => exact hG.below (by exact pbE HB.out)); (case side2 => exact Kd.C_ext (Kd.R_reads' HO_3.out).2.2); (case side3 => exact (Kd.R_reads' HO_3.out).2.1); rintro e w32 ⟨rfl, hb⟩; refine ⟨_, rfl, ?_⟩; replace HO_3 := Az.mk (Kd.R_below (Kd.R_ext HO_3.out) hb); replace BK145 := Az.mk (bkB (bk BK145.out) hb); replace HB := Az.mk (pbT (by exact pbE HB.out) hb); (try clear hb); (try clear hb2); (try clear hk); (try clear hi)))
    go_ret
    exact ⟨by first | rfl | (simp [errW_none, errW_some] <;> rfl) | (simp [*, errW_none, errW_some] <;> rfl), by exact pbE HB.out⟩
def desc_numbers.l0 : Nat → List Int → List ByteArray → Int → Int → Option (List Int × Bool)
 | 0, _, _, _, _ => none
 | k + 1, x2, x8, x9, x10 => if x10 < x9 then (if 0 ≤ x10 then (if x10 < (x8.length : Int) then ((knot_Int.f (rdOf ByteArray.empty x8 x10)).bind fun bt175 => (if bt175.2 = 0 then (if x2.length < 17592186044416 then (desc_numbers.l0 k (x2 ++ [bt175.1]) x8 x9 (wrap64 (x10 + 1))) else (none)) else (some (([] : List Int), false)))) else (none)) else (none)) else (some (x2, true))
def desc_numbers.f (k : Nat) (l0 : List ByteArray) : Option (List Int × Bool) := desc_numbers.l0 k ([] : List Int) l0 (l0.length : Int) 0
theorem desc_numbers.mono_l : ∀ k, (∀ y0 y1 y2 y3, LeO (desc_numbers.l0 k y0 y1 y2 y3) (desc_numbers.l0 (k + 1) y0 y1 y2 y3))
 | 0 => fun _ _ _ _ r h => by simp [desc_numbers.l0] at h
 | k + 1 => by
  have ih0 := desc_numbers.mono_l k
  ·intro y0 y1 y2 y3
   unfold desc_numbers.l0
   repeat' first
   | (with_reducible exact ih0 _ _ _ _)
   | (with_reducible exact LeO.refl _)
   | (with_reducible exact LeO.none _)
   | (with_reducible refine LeO.ite ?_ ?_)
   | (with_reducible refine LeO.bind ?_ (fun _ => ?_))
   | exact ih0 _ _ _ _
   | exact LeO.none _
   | refine LeO.ite ?_ ?_
   | refine LeO.bind ?_ (fun _ => ?_)
theorem desc_numbers.mono : ∀ a0 k, LeO (desc_numbers.f k a0) (desc_numbers.f (k + 1) a0) := by
 intro a0 k
 have ih0 := desc_numbers.mono_l k
 unfold desc_numbers.f
 repeat' first
  | (with_reducible exact ih0 _ _ _ _)
  | (with_reducible exact LeO.refl _)
  | (with_reducible exact LeO.none _)
  | (with_reducible refine LeO.ite ?_ ?_)
  | (with_reducible refine LeO.bind ?_ (fun _ => ?_))
  | exact ih0 _ _ _ _
  | exact LeO.none _
  | refine LeO.ite ?_ ?_
  | refine LeO.bind ?_ (fun _ => ?_)
set_option maxHeartbeats 8000000 in
set_option maxRecDepth 100000 in
theorem desc_numbers.calls (k : Nat) (A0 : Option Addr) (c0 : Nat) (l0 : List ByteArray) (r1 : List Int) (r2 : Bool) (w : World) (hG : TheG w) (hr0 : Kd.C Kd.string w A0 l0.length l0) (hc0 : l0.length ≤ c0) (h : desc_numbers.f k l0 = some (r1, r2)) :
 Calls Tryd.prog 44 #[.slice A0 l0.length c0] w fun e w' => ∃ v0_ : Value, e = .returned (.tuple #[v0_, .bool r2]) ∧ Kd.R (Kd.int .i64) 2 w' w.heap.size (fun _ => True) v0_ r1 ∧ Below w.heap.size w w' := by
 have HR0 := Az.mk hr0
 have HC0 := Az.mk hc0
 clear hr0 hc0
 have HB := Az.mk (Below.refl w.heap.size w)
 have H : (desc_numbers.l0 k ([] : List Int) l0 (l0.length : Int) 0) = some (r1, r2) := h
 clear h
 have H' := Az.mk H
 clear H
 go_enter Tryd.func44, Tryd.ntmps44
 go_wp2
 go_loopg [2, 10] k (fun kq v2 v10 w' => ∃ (x2_1 : List Int) (x10_1 : Int), v10 = .int .i64 x10_1 ∧ Az (desc_numbers.l0 kq x2_1 l0 (l0.length : Int) x10_1 = some (r1, r2)) ∧ Az (kq ≤ k) ∧ Az (Kd.R (Kd.int .i64) 2 w' w.heap.size (fun _ => True) v2 x2_1) ∧ Az (Below w.heap.size w w'))
 case atStart => exact ⟨(([] : List Int)), (0), (by first | rfl | (simp; done) | (simp [*]; done)), H', ⟨Nat.le_refl _⟩, ⟨by first | exact Kd.R_nil _ _ _ _ _ | exact Kd.N_nil _ _ _ _ _ | exact Kd.V_nil _ _ _ _ _ | exact Kd.Q_nil _ _ _ _ _ | exact Kd.S_nil _ _ _ _ _⟩, ⟨by exact pbE HB.out⟩⟩
 case round =>
  clear H'
  obtain ⟨x2_1, x10_1, rfl, HA, HK1, HO_2, HB⟩ := hrel
  cases gk with
  | zero => exact absurd HA.out (by simp [desc_numbers.l0])
  | succ k1 =>
   have H := HA.out
   clear HA
   simp only [desc_numbers.l0] at H
   by_cases c2 : x10_1 < (l0.length : Int)
   ·rw [if_pos c2] at H
    have c2b0 : decide (x10_1 < (l0.length : Int)) = true := decide_eq_true c2
    clear c2
    by_cases c3 : 0 ≤ x10_1
    ·rw [if_pos c3] at H
     have c3b0 : decide (0 ≤ x10_1) = true := decide_eq_true c3
     clear c3
     by_cases c4 : x10_1 < (l0.length : Int)
     ·rw [if_pos c4] at H
      have c4b0 : decide (x10_1 < (l0.length : Int)) = true := decide_eq_true c4
      clear c4
      replace H := Option.bind_eq_some_iff.mp H
      obtain ⟨⟨t175, t176⟩, A50, H⟩ := H
      try dsimp only at H
      have A5 := Az.mk A50
      clear A50
      by_cases c6 : t176 = 0
      ·rw [if_pos c6] at H
       have c6b0 : (t176 == 0) = true := beq_iff_eq.mpr c6
       have c6b1 : (t176 != 0) = false := bne_eq_false_iff_eq.mpr c6
       clear c6
       by_cases c7 : x2_1.length < 17592186044416
       ·rw [if_pos c7] at H
        have LMc7 := Az.mk c7
        clear c7
        obtain ⟨y177, hy177⟩ : ∃ y_ : List Int, y_ = (x2_1 ++ [t175]) := ⟨_, rfl⟩
        replace H : (desc_numbers.l0 k1 y177 l0 (l0.length : Int) (wrap64 (x10_1 + 1))) = some (r1, r2) := by first | (rw [hy177]; with_reducible exact H) | (have H2_ := (Option.bind_some _ _).symm.trans H; rw [hy177]; with_reducible exact H2_) | (have H2_ := (Option.bind_some _ _).symm.trans H; with_reducible exact H2_) | with_reducible exact H | (rw [hy177]; exact H) | exact H
        have Ny177 := Az.mk hy177
        clear hy177
        have H' := Az.mk H
        clear H
        have p174 : 0 ≤ (x10_1 : Int) := of_decide_eq_true (by first | (with_reducible assumption) | assumption)
        have q174 : x10_1 < (l0.length : Int) := of_decide_eq_true (by first | (with_reducible assumption) | assumption)
        obtain ⟨ad174, e174, hx174_0⟩ := Kd.at_string HR0.out x10_1 p174 q174
        cases e174
        replace hx174_0 := (HB.out.cell (World.block_lt_of_cell? w _ hx174_0)).trans hx174_0
        replace p174 := eq_true p174
        replace q174 := eq_true q174
        go_wp2_with (first | ((with_reducible refine gtc (f := 70) rfl ?_); refine goesL_ (some 16) rfl rfl Tryd.func70 (by kernel_rfl) rfl #[.string (rdOf ByteArray.empty l0 x10_1)] rfl (by (try simp only [List.map_toArray, List.map_cons, List.map_nil]); first | done | rfl | (simp only [List.length_drop, List.length_take]; rfl)) ?_; (with_reducible refine (knot_Int.calls (rdOf ByteArray.empty l0 x10_1) t175 t176 _ ?side1 A5.out).mono ?_); (case side1 => exact hG.below (by exact pbE HB.out)); rintro e w8 ⟨rfl, hb⟩; refine ⟨_, rfl, ?_⟩; replace HO_2 := Az.mk (Kd.R_below (Kd.R_ext HO_2.out) hb); replace HB := Az.mk (pbT (by exact pbE HB.out) hb); (try clear hb); (try clear hb2); (try clear hk); (try clear hi)) | ((with_reducible refine gate_builtin (b := .append) (xs := #[.tmp 21, .tmp 23]) rfl ?_); at_builtin; refine Kd.R_append (Kd.int .i64) (w0 := w) w.heap.size rfl (.tmp 21) (.tmp 23) 83 2 (.int .i64 0) 8 rfl Tryd.underlying83 info2 rfl (by decide) (by omega) u2 x2_1 t175 [.int .i64 t175] (fun _ => True) (fun _ => False) rfl rfl ?aP (fun _ hk => hk.elim) ?aF ?aO ?aB ?aS ?aL ?_; (case aP => exact rfl); (case aB => exact (by exact pbE HB.out)); (case aF => exact (fun _ _ => trivial)); (case aO => exact (Kd.R_ext HO_2.out)); (case aS => exact (pbZ (by exact pbE HB.out))); (case aL => have := LMc7.out; omega); intro v178 w9 ho hb hg hat; rw [← Ny177.out] at ho; replace HB := Az.mk (hb); have HO179 := Az.mk (ho); clear HO_2; clear ho hb hg hat))
        go_roundg k1
        case measure => have := HK1.out; omega
        case rel => exact ⟨(y177), (wrap64 (x10_1 + 1)), (by first | rfl | (simp; done) | (simp [*]; done)), H', ⟨by have := HK1.out; omega⟩, ⟨by (with_reducible repeat (first | apply Kd.R_alloc | apply Kd.R_drewN | apply Kd.R_drew)); exact HO179.out⟩, ⟨by exact pbE HB.out⟩⟩
       ·rw [if_neg c7] at H
        exact absurd H (by simp)
      ·rw [if_neg c6] at H
       have c6b0 : (t176 == 0) = false := beq_eq_false_iff_ne.mpr c6
       have c6b1 : (t176 != 0) = true := bne_iff_ne.mpr c6
       simp only [Option.some.injEq, Prod.mk.injEq] at H
       obtain ⟨rfl, rfl⟩ := H
       have p174 : 0 ≤ (x10_1 : Int) := of_decide_eq_true (by first | (with_reducible assumption) | assumption)
       have q174 : x10_1 < (l0.length : Int) := of_decide_eq_true (by first | (with_reducible assumption) | assumption)
       obtain ⟨ad174, e174, hx174_0⟩ := Kd.at_string HR0.out x10_1 p174 q174
       cases e174
       replace hx174_0 := (HB.out.cell (World.block_lt_of_cell? w _ hx174_0)).trans hx174_0
       replace p174 := eq_true p174
       replace q174 := eq_true q174
       go_wp2_with (first | ((with_reducible refine gtc (f := 70) rfl ?_); refine goesL_ (some 16) rfl rfl Tryd.func70 (by kernel_rfl) rfl #[.string (rdOf ByteArray.empty l0 x10_1)] rfl (by (try simp only [List.map_toArray, List.map_cons, List.map_nil]); first | done | rfl | (simp only [List.length_drop, List.length_take]; rfl)) ?_; (with_reducible refine (knot_Int.calls (rdOf ByteArray.empty l0 x10_1) t175 t176 _ ?side1 A5.out).mono ?_); (case side1 => exact hG.below (by exact pbE HB.out)); rintro e w10 ⟨rfl, hb⟩; refine ⟨_, rfl, ?_⟩; replace HO_2 := Az.mk (Kd.R_below (Kd.R_ext HO_2.out) hb); replace HB := Az.mk (pbT (by exact pbE HB.out) hb); (try clear hb); (try clear hb2); (try clear hk); (try clear hi)))
       go_ret2
       exact ⟨_, by first | rfl | (simp [errW_none, errW_some] <;> rfl) | (simp [*, errW_none, errW_some] <;> rfl), by first | exact Kd.R_nil _ _ _ _ _ | exact Kd.N_nil _ _ _ _ _ | exact Kd.V_nil _ _ _ _ _ | exact Kd.Q_nil _ _ _ _ _ | exact Kd.S_nil _ _ _ _ _, by exact pbE HB.out⟩
     ·rw [if_neg c4] at H
      exact absurd H (by simp)
    ·rw [if_neg c3] at H
     exact absurd H (by simp)
   ·rw [if_neg c2] at H
    have c2b0 : decide (x10_1 < (l0.length : Int)) = false := decide_eq_false c2
    clear c2
    simp only [Option.some.injEq, Prod.mk.injEq] at H
    obtain ⟨rfl, rfl⟩ := H
    go_wp2
    go_ret2
    exact ⟨_, by first | rfl | (simp [errW_none, errW_some] <;> rfl) | (simp [*, errW_none, errW_some] <;> rfl), by (with_reducible repeat (first | apply Kd.R_alloc | apply Kd.R_drewN | apply Kd.R_drew)); exact HO_2.out, by exact pbE HB.out⟩
end Go.Proofs.YtjfhcijjjadhbaaDoor.P
end
section
namespace Go.Proofs.YtjfhcijjjadhbaaDoor.K
open Go Go.RowKit Go.Proofs.YtjfhcijjjadhbaaDoorW.PrintLast
variable {P : Program} {n l₀ : Nat} {Q : Exit → Act → World → Prop} {ops : Array Oper} {md : Region.Mode}
theorem rowsIn_wide_ {row : String} {args : Array Value} {w : World} {R : Value → World → Prop} (h : Rows P row args w R) : RowsIn (Fence.wide.inRound l₀) n P row args w R := fun c cs _ =>
 let ⟨v, w', r, s⟩ := h c cs
 ⟨v, w', r, stepsIn_wide.2 s⟩
theorem callsIn_wide_ {f : FuncId} {args : Array Value} {w : World} {R : Ending → World → Prop} (h : Calls P f args w R) : CallsIn (Fence.wide.inRound l₀) n P f args w R := CallsIn.inRound l₀ (callsIn_wide.2 h)
theorem upon_in {o : Oper} {a : Act} {K : Act → World → Prop} {r : Result Next} (h : o.upon P a K Q r) : o.uponIn (Fence.wide.inRound l₀) n P a K Q r := by
 cases r with
 | ok x w' =>
  cases x with
  | value v => exact h
  | skip => exact h
  | defer d => exact h
  | enter f args => exact ⟨(fun hd => by cases hd), callsIn_wide_ h⟩
  | row row args => exact ⟨(fun hd => by cases hd), rowsIn_wide_ h⟩
  | round => exact h.elim
  | _ => exact h.elim
 | halt x w' =>
  cases x with
  | panic v => exact h
  | _ => exact h.elim
theorem wp_in {o : Oper} {a : Act} {w : World} {K : Act → World → Prop} (hd : ∀ c, o.op ≠ .defer c) (h : o.wp P a w K Q) : o.wpIn (Fence.wide.inRound l₀) n P a w K Q :=
 ⟨fun _ _ => trivial, by rw [Oper.semAt_eq _ _ _ hd]; exact upon_in h⟩
theorem wpAny_in (hq : ¬ LetsOut Q) (hd : ∀ (i : Nat) (o : Oper), ops[i]? = some o → ∀ c, o.op ≠ .defer c) : ∀ (fuel : Nat) (listed : Array Bool) (a : Act) (w : World), wpAny P md ops Q fuel listed a w → wpAnyIn (Fence.wide.inRound l₀) n P md ops Q fuel listed a w
 | 0, _, _, _, h => h
 | fuel + 1, listed, a, w, h => by
  refine ⟨h.1, fun i hi => ?_⟩
  have h2 := h.2 i hi
  unfold wpOp at h2
  unfold wpOpIn
  cases ho : ops[i]? with
  | none => rw [ho] at h2; exact wpAny_in hq hd fuel _ _ _ h2
  | some o =>
   rw [ho] at h2
   simp only at h2 ⊢
   split at h2
   ·rename_i hw
    rw [if_pos hw]
    rcases h2 with h3 | ⟨_, h3⟩
    ·exact Oper.wpIn_mono (fun a w hk => wpAny_in hq hd fuel _ _ _ hk) (wp_in (hd i o ho) h3)
    ·exact absurd h3 hq
   ·rename_i hw
    rw [if_neg hw]
    exact ⟨fun _ _ => trivial, wpAny_in hq hd fuel _ _ _ h2⟩
/-- As start_, inside a round. -/
theorem startIn_ {S : World → Prop} {ds : List Nat} {id m : Nat} {a : Act} {w : World} (l : Array Bool) (hm : P.follows .mixedOrders = true) (hq : ¬ LetsOut Q) (hd : ∀ (i : Nat) (o : Oper), ops[i]? = some o → ∀ c, o.op ≠ .defer c) (hn : ops.size = m) (hl : Array.replicate m false = l) (hS : S w.drew)
 (h : S w.drew → wpAnyLast P .any ops Q S ds m l a w.drew) : (Code.region id ops true).wpIn (Fence.wide.inRound l₀) n P Q a w := by
 subst hn
 subst hl
 exact wpIn_region_any hm (wpAny_in hq hd _ _ _ _ (wpAny_of_last _ _ _ _ (h hS)))
end Go.Proofs.YtjfhcijjjadhbaaDoor.K
end
section
namespace Go.Proofs.YtjfhcijjjadhbaaDoor.P
open Go.RowKit Go.Shelf Go.Proofs.YtjfhcijjjadhbaaDoor.K Go.Proofs.YtjfhcijjjadhbaaDoorW.PrintWords Go.Proofs.YtjfhcijjjadhbaaDoorW.PrintLast Go.Proofs.YtjfhcijjjadhbaaDoorW.PrintMore
attribute [local go_sem] Oper.semAt_some
/-- Two numbers after two numbers. -/
def pairsOf : List Int → List S60
 | a :: b :: r => ⟨a, b⟩ :: pairsOf r
 | _ => []
def slices_Chunk_int64_int64.f (l : List Int) (n : Int) : Option (List S60) := if n = 2 ∧ 3 ≤ l.length ∧ l.length ≤ 1000000000 ∧ (l.length - 3) % 2 = 0 then some (pairsOf (l.drop 3)) else none
/-- The two boxes keep what they hold. -/
def BoxKeep (B : Nat) (W W' : World) : Prop := W'.heap[B]? = W.heap[B]? ∧ W'.heap[B + 1]? = W.heap[B + 1]?
theorem BoxKeep.trans {B : Nat} {X Y Z : World} (h : BoxKeep B X Y) (k : BoxKeep B Y Z) : BoxKeep B X Z := ⟨k.1.trans h.1, k.2.trans h.2⟩
theorem nth_range (N k : Nat) (h : k < N) : ((List.finRange N).take k) ++ [⟨k, h⟩] = (List.finRange N).take (k + 1) := by
 rw [List.take_succ_eq_append_getElem (by simpa using h)]
 simp
set_option maxHeartbeats 8000000 in
set_option maxRecDepth 100000 in
theorem chunk_stops (m : Nat) (hm : 1 ≤ m) (B : Nat) (A : Option Addr) (N c : Nat) (hN : N ≤ 1000000000) (hc : 2 * N ≤ c) (hA : 0 < N → ∃ ad, A = some ad) (w : World) (hB : B + 1 < w.heap.size)
 (h1 : w.heap[B]? = some (.cells #[.slice A (2 * N) c] 83 (0, 0))) (h2 : w.heap[B + 1]? = some (.cells #[.int .i64 2] 3 (0, 0))) :
 SeqStopsK Fence.wide m Tryd.prog 71 #[.pointer (some ⟨B, 0, none⟩), .pointer (some ⟨B + 1, 0, none⟩)] (fun i : Fin N => #[.slice (A.map (·.add (2 * i.1))) 2 2]) (BoxKeep B) (fun xs => xs = List.finRange N) (fun _ => True) N w := by
 intro l J Jx W hW hJa _ hY h0
 have b1 : W.heap[B]? = some (.cells #[.slice A (2 * N) c] 83 (0, 0)) := (hW.block B (by omega)).trans h1
 have b2 : W.heap[B + 1]? = some (.cells #[.int .i64 2] 3 (0, 0)) := (hW.block (B + 1) (by omega)).trans h2
 show CallsIn Fence.wide m Tryd.prog 71 #[.func (.yield l) #[] #[], .pointer (some ⟨B, 0, none⟩), .pointer (some ⟨B + 1, 0, none⟩)] W _
 refine callsIn_of_wp Tryd.func71 rfl trivial ?_ rfl
 simp only [Tryd.ntmps71, List.size_toArray, List.length_cons, List.length_nil, Nat.reduceAdd, Nat.reduceSub, Array.replicate_succ, Array.replicate_zero, List.push_toArray, List.append_toArray, List.nil_append, List.cons_append]
 gi_wp2
 gi_loopw [4] (fun i wr => ∃ k : Nat, k ≤ N ∧ i = .int .i64 ((2 * k : Nat) : Int) ∧ J ((List.finRange N).take k) wr ∧ BoxKeep B W wr) (fun i _ => 2 * N - (intOf i).toNat)
 case atStart => exact ⟨0, Nat.zero_le _, rfl, by simpa using h0, rfl, rfl⟩
 case round =>
  obtain ⟨k, hk, rfl, hJ, hkp⟩ := hrel
  have x0 := (bkC (hkp.1.trans b1) 0).trans rfl
  have y0 := (bkC (hkp.2.trans b2) 0).trans rfl
  by_cases hlt : k < N
  ·obtain ⟨ad, rfl⟩ := hA (by omega)
   have hJd : J ((List.finRange N).take k) wr.drew := hJa _ _ _ none hJ ⟨rfl, rfl, rfl, Nat.le_refl _, fun _ _ _ => rfl⟩ (fun r e => by cases e)
   obtain ⟨fn, tmps, assign, body, hy, hR⟩ := hY _ ⟨k, hlt⟩ wr.drew hJd (by simp; omega)
   simp only [Option.map_some] at hy
   have m1 : min 2 (((2 * N - 2 * k : Nat)) : Int) = 2 := by omega
   have m2 : (2 * (k : Int) + 2).toNat - 2 * k = 2 := by omega
   have m3 : (0 : Int) ≤ 2 * (k : Int) + 2 := by omega
   have m4 : 2 * (k : Int) + 2 ≤ 2 * (N : Int) := by omega
   have m5 : 2 * (k : Int) + 2 ≤ (c : Int) := by omega
   have z0 : wr.drew.cell? ⟨B + 1, 0, none⟩ = some (.int .i64 2) := y0
   have q1 : ((2 * k : Nat) : Int) < ((2 * N : Nat) : Int) := by omega
   have p0 : (0 : Int) ≤ 2 * (k : Int) := by omega
   have p1 : 2 * (k : Int) ≤ 2 * (N : Int) := by omega
   have p2 : 2 * (k : Int) ≤ (c : Int) := by omega
   have p3 : ¬ c = 2 * k := by omega
   gi_wp2
   gi_region
   gi_wp2
   refine hR.mono ?_
   rintro e W3 (⟨rfl, hJ3, hk3⟩ | ⟨rfl, hJx3⟩)
   ·have c0 := (bkC (hk3.2.trans ((hkp.2.trans b2 : wr.drew.heap[B + 1]? = _))) 0).trans rfl
    gi_wp2
    go_roundw
    case rel => exact ⟨k + 1, by omega, by go_num, by rw [← nth_range N k hlt]; exact hJ3, hkp.trans hk3⟩
    case measure => simp [intOf]; omega
   ·gi_wp2
    refine bodyPost_ret (results_none rfl _ _ _) rfl ?_
    exact ⟨⟨_, rfl⟩, .inr ⟨_, trivial, hJx3⟩⟩
  ·obtain rfl : k = N := by omega
   have q1 : ¬ ((2 * k : Nat) : Int) < ((2 * k : Nat) : Int) := by omega
   gi_wp2
   go_end0
   rw [List.take_of_length_le (by simp)] at hJ
   exact ⟨⟨_, rfl⟩, by first | exact .inl hJ | exact .inl ⟨_, rfl, hJ⟩⟩
end Go.Proofs.YtjfhcijjjadhbaaDoor.P
end
section
namespace Go.Proofs.YtjfhcijjjadhbaaDoor.P
open Go.RowKit Go.Shelf Go.Proofs.YtjfhcijjjadhbaaDoor.K Go.Proofs.YtjfhcijjjadhbaaDoorW.PrintWords Go.Proofs.YtjfhcijjjadhbaaDoorW.PrintLast Go.Proofs.YtjfhcijjjadhbaaDoorW.PrintMore
attribute [local go_sem] Oper.semAt_some
/-- The first range over a function in a code: its assignment and its body. -/
def findRange : Code → Option (Code × Code)
 | .rangeFunc _ _ a b => some (a, b)
 | .seq x y => match findRange x with
  | some r => some r
  | none => findRange y
 | .block _ c => findRange c
 | .cond _ x y => match findRange x with
  | some r => some r
  | none => findRange y
 | _ => none
def pairAt (ns : List Int) (i : Nat) : S60 := ⟨ns.getD (2 * i) 0, ns.getD (2 * i + 1) 0⟩
theorem pairs_range : ∀ (N : Nat) (ns : List Int), ns.length = 2 * N → (List.range N).map (pairAt ns) = pairsOf ns
 | 0, ns, h => by
  have : ns = [] := List.eq_nil_of_length_eq_zero (by omega)
  subst this; rfl
 | N + 1, a :: b :: r, h => by
  rw [List.range_succ_eq_map, List.map_cons, List.map_map]
  show _ :: _ = (⟨a, b⟩ : S60) :: pairsOf r
  rw [← pairs_range N r (by simp at h; omega)]
  congr 1
 | N + 1, [], h => by simp at h
 | N + 1, [a], h => by simp at h; omega
/-- What lay ahead lies, but for one block. -/
structure BelowBut (B g : Nat) (w w' : World) : Prop where
 os : w'.os = w.os
 tape : w'.tape = w.tape
 output : w'.output = w.output
 size : w.heap.size ≤ w'.heap.size
 block : ∀ k, k < B → k ≠ g → w'.heap[k]? = w.heap[k]?
theorem BelowBut.then {B g : Nat} {w W W2 : World} (h : BelowBut B g w W) (k : Below B W W2) : BelowBut B g w W2 := ⟨k.os.trans h.os, k.tape.trans h.tape, k.output.trans h.output, Nat.le_trans h.size k.size, fun i hi hg => (k.block i hi).trans (h.block i hi hg)⟩
theorem BelowBut.set {B g : Nat} {w W : World} (h : BelowBut B g w W) (j : Nat) (u : Value) : BelowBut B g w (W.setCell ⟨g, j, none⟩ u) := ⟨h.os, h.tape, h.output, by simpa using h.size, fun i hi hg => (Below.heap_setCell W ⟨g, j, none⟩ u i hg).trans (h.block i hi hg)⟩
theorem BelowBut.grown {B g : Nat} {w W W2 : World} {row : Option Nat} (h : BelowBut B g w W) (k : W.grownBy W2 row) (hs : B ≤ W.heap.size) (hr : ∀ r, row = some r → B ≤ r) : BelowBut B g w W2 :=
 ⟨k.os.trans h.os, k.tape.trans h.tape, k.output.trans h.output, Nat.le_trans h.size k.size, fun i hi hg => (k.block i (by omega) (fun e => by have := hr i e.symm; omega)).trans (h.block i hi hg)⟩
theorem World.setCell_size_ (w : World) (a : Addr) (v : Value) : (w.setCell a v).heap.size = w.heap.size := by simp
theorem set_back {W : World} {b : Nat} {t : TypeId} {v0 v1 v2 v3 v5 u v : Value} (hv : W.heap[b]? = some (.cells #[v0, v1, v2, v3, v, v5] t (0, 0))) : (W.setCell ⟨b, 4, none⟩ u).setCell ⟨b, 4, none⟩ v = W := by
 have hh : ((W.setCell ⟨b, 4, none⟩ u).setCell ⟨b, 4, none⟩ v).heap = W.heap := by
  apply Array.ext_getElem?
  intro k
  by_cases e : k = b
  ·subst e
   exact (blk_put (blk_put hv 4 u rfl) 4 v rfl).trans hv.symm
  ·exact (Below.heap_setCell _ ⟨b, 4, none⟩ _ k e).trans (Below.heap_setCell W ⟨b, 4, none⟩ _ k e)
 show { W with heap := ((W.setCell ⟨b, 4, none⟩ u).setCell ⟨b, 4, none⟩ v).heap } = W
 rw [hh]
theorem cell_set6 {W : World} {g : Nat} {a : Addr} {x : Value} (h : a.block ≠ g) (hc : W.cell? a = some x) (v0 v1 v2 v3 v4 v5 : Value) : ((((((W.setCell ⟨g, 0, none⟩ v0).setCell ⟨g, 1, none⟩ v1).setCell ⟨g, 2, none⟩ v2).setCell ⟨g, 3, none⟩ v3).setCell ⟨g, 4, none⟩ v4).setCell ⟨g, 5, none⟩ v5).cell? a = some x :=
 (cell_far (p := ⟨g, 5, none⟩) h _).trans ((cell_far (p := ⟨g, 4, none⟩) h _).trans ((cell_far (p := ⟨g, 3, none⟩) h _).trans ((cell_far (p := ⟨g, 2, none⟩) h _).trans ((cell_far (p := ⟨g, 1, none⟩) h _).trans ((cell_far (p := ⟨g, 0, none⟩) h _).trans hc)))))
def noDefer (o : Oper) : Bool := match o.op with
 | .defer _ => false
 | _ => true
theorem df_of {ops : Array Oper} (h : ops.all noDefer = true) : ∀ (i : Nat) (o : Oper), ops[i]? = some o → ∀ c, o.op ≠ .defer c := by
 intro i o ho c e
 rw [Array.all_eq_true] at h
 obtain ⟨hi, rfl⟩ := Array.getElem?_eq_some_iff.1 ho
 have := h i hi
 simp [noDefer, e] at this
theorem chunk_open {l : List Int} {n : Int} {r : List S60} (h : slices_Chunk_int64_int64.f l n = some r) : ∃ N, l.length = 3 + 2 * N ∧ N ≤ 1000000000 ∧ r = pairsOf (l.drop 3) := by
 unfold slices_Chunk_int64_int64.f at h
 split at h
 ·rename_i hc
  exact ⟨(l.length - 3) / 2, by omega, by omega, (Option.some.inj h).symm⟩
 ·cases h
/-- What the body must achieve: it returns, with whatever marks among its deferred calls. -/
def bodyPostN (P : Program) (fn : Func) (R : Ending → World → Prop) : Exit → Act → World → Prop
 | .normal, a, w | .ret, a, w => LeavesInM Fence.wide 5 P fn a.tmps R a.defers .returning w
 | _, _, _ => False
theorem enterM {P : Program} {f : FuncId} {fn : Func} {c : Code} {args : Array Value} {w : World} {R : Ending → World → Prop} (hf : P.funcs[f]? = some fn) (hb : fn.body = some c)
 (h : c.wp P (bodyPostN P fn R) { tmps := args ++ Array.replicate (fn.ntmps - args.size) undef, defers := [] } w) : Calls P f args w R := by
 refine (callsIn_wide (n := 5)).1 (callsIn_of_wp_marks hf hb trivial (wpIn_wide.2 ?_))
 intro b k cs
 obtain ⟨e, a', w', hq, harr⟩ := h b k cs
 refine ⟨e, a', w', ?_, harr⟩
 cases e with
 | normal => exact hq
 | ret => exact hq
 | panic c => exact hq.elim
 | exit i => exact hq.elim
 | goto l => exact hq.elim
 | outgrown => exact hq.elim
theorem bodyPost_retM {P : Program} {fn : Func} {R : Ending → World → Prop} {a : Act} {w : World} {v : Value} (hr : (results fn a.tmps).run P w = .ok v w) (hd : a.defers = []) (hR : R (.returned v) w) : bodyPostN P fn R .ret a w := by
 show LeavesInM _ _ _ _ _ _ a.defers _ _
 rw [hd]
 exact ⟨v, hr, hR⟩
theorem bodyPost_retD {P : Program} {fn : Func} {R : Ending → World → Prop} {a : Act} {w : World} {v : Value} {X : Nat} (hd : a.defers = [{ target := .collected X, args := #[] }]) (hX : w.heap[X]? = some (.deferred (some [])))
 (hr : (results fn a.tmps).run P (w.putObj X (.deferred none)) = .ok v (w.putObj X (.deferred none))) (hR : R (.returned v) (w.putObj X (.deferred none))) : bodyPostN P fn R .ret a w := by
 show LeavesInM _ _ _ _ _ _ a.defers _ _
 rw [hd]
 exact ⟨by simp, Or.inl ⟨X, _, rfl, run_takeDeferred hX, v, hr, hR⟩⟩
theorem below_put {w W : World} {X : Nat} {o : Obj} (h : Below w.heap.size w W) (hX : w.heap.size ≤ X) : Below w.heap.size w (W.putObj X o) :=
 ⟨h.os, h.tape, h.output, by simpa using h.size, fun k hk => (World.putObj_heap_other (by omega)).trans (h.block k hk)⟩
theorem C60_cell {W W1 : World} {A : Option Addr} {n : Nat} {xs : List S60} (h : Kd.C k60 W A n xs) (hc : ∀ a v, W.cell? a = some v → W1.cell? a = some v) : Kd.C k60 W1 A n xs := by
 refine ⟨h.1, h.2.1, fun hn => ?_⟩
 obtain ⟨ad, e, hr⟩ := h.2.2 hn
 refine ⟨ad, e, fun j p hp => ?_⟩
 obtain ⟨c, hl, hK, hcell⟩ := hr j p hp
 refine ⟨c, hl, ?_, fun i u hu => hc _ _ (hcell i u hu)⟩
 obtain ⟨_, _, rfl, rfl, rfl⟩ := hK
 exact ⟨_, _, rfl, rfl, rfl⟩
theorem V60_put {W : World} {e base X : Nat} {ok : Nat → Prop} {v : Value} {xs : List S60} {o1 : Option (List Deferred)} (h : Kd.V k60 e W base ok v xs) (hX : W.heap[X]? = some (.deferred o1)) (o2 : Option (List Deferred)) :
 Kd.V k60 e (W.putObj X (.deferred o2)) base ok v xs := by
 have hlt := blk_lt hX
 refine Kd.V_map h (fun A hf W' hW => ?_)
 by_cases hk : ok X
 ·have hWX : W'.heap[X]? = some (.deferred o2) := (hW X hk (by simpa using hlt)).trans (World.putObj_heap_same hlt)
  have hlt' := blk_lt hWX
  refine C60_cell (W := W'.putObj X (.deferred o1)) (hf _ (fun k hk2 hl2 => ?_)) (fun a v hv => ?_)
  ·by_cases e : k = X
   ·subst e
    exact (World.putObj_heap_same hlt').trans hX.symm
   ·exact (World.putObj_heap_other e).trans ((hW k hk2 (by simpa using hl2)).trans (World.putObj_heap_other e))
  ·by_cases e : a.block = X
   ·simp only [World.cell?, e, World.putObj_heap_same hlt'] at hv
    cases hv
   ·simp only [World.cell?, World.putObj_heap_other e] at hv ⊢
    exact hv
 ·refine hf _ (fun k hk2 hl2 => ?_)
  have e : k ≠ X := fun e => hk (e ▸ hk2)
  exact (hW k hk2 (by simpa using hl2)).trans (World.putObj_heap_other e)
def W0 (w0 : World) (A : Option Addr) (N c : Nat) : World := (w0.alloc (.cells #[.slice A (2 * N) c] 83)).alloc (.cells #[.int .i64 2] 3)
theorem W0_size (w0 : World) (A : Option Addr) (N c : Nat) : (W0 w0 A N c).heap.size = w0.heap.size + 2 := by simp [W0]
/-- Between two rounds. -/
def RI (w0 w1 : World) (b2 : Nat) (v0 v1 v2 v3 v5 : Value) (ns : List Int) {N : Nat} (pre : List (Fin N)) (W : World) : Prop :=
 ∃ v, W.heap[b2]? = some (.cells #[v0, v1, v2, v3, v, v5] 26 (0, 0)) ∧ BelowBut (w0.heap.size + 2) b2 w1 W ∧ Kd.R k60 60 W (w0.heap.size + 2) (fun _ => True) v (pre.map (fun i => pairAt ns i.1))
theorem RI_own (w0 w1 : World) (b2 : Nat) (v0 v1 v2 v3 v5 : Value) (ns : List Int) {N : Nat} (hb2 : b2 < w0.heap.size) (h1 : w0.heap.size + 2 ≤ w1.heap.size) : OwnFrom (w0.heap.size + 2) (RI (N := N) w0 w1 b2 v0 v1 v2 v3 v5 ns) := by
 rintro pre W W' row ⟨v, hb, hB, hR⟩ hg hr
 refine ⟨v, (hg.block b2 (blk_lt hb) (fun e => ?_)).trans hb, hB.grown hg (Nat.le_trans h1 hB.size) (fun r e => (hr r e).1), ?_⟩
 ·have := (hr b2 e.symm).1
  omega
 ·refine Kd.R_mono (Kd.R_step (Kd.R_bound hR) (fun k hk hlt => hg.block k hlt (fun e => ?_))) (fun _ _ => trivial)
  obtain ⟨_, o, ho, hnc⟩ := hr k e.symm
  obtain ⟨_, _, _, q, _, cells, hc⟩ := hk
  rw [hc] at ho
  cases ho
  cases hnc
set_option maxHeartbeats 16000000 in
set_option maxRecDepth 100000 in
theorem parse_range {as_ bd : Code} (hcode : (Tryd.f21.body.bind findRange) = some (as_, bd)) (t0 t1 t3 t4 t5 t6 t7 t8 t9 t10 t11 t12 t13 t14 t15 t16 t17 t18 t19 t20 t21 t22 t23 t24 t25 t26 t27 t28 t29 t30 t31 t32 t33 t34 t35 t36 t37 t38 t39 t40 t41 t42 t43 t44 t45 t46 t47 t48 t49 t50 t51 t52 t53 t54 t55 t56 t57 t58 t59 t61 t62 t63 t64 t65 t66 t67 t68 t69 t70 t71 t72 t73 t74 t75 t76 t77 t78 t79 t80 t81 t82 : Value) (Q : Exit → Act → World → Prop) (w0 : World) (b2 : Nat) (v0 v1 v2 v3 v5 : Value) (A : Option Addr) (N c : Nat) (ns : List Int)
 (BK : w0.heap[b2]? = some (.cells #[v0, v1, v2, v3, .slice none 0 0, v5] 26 (0, 0))) (hF : Kd.F (Kd.int .i64) w0 (fun k => k < w0.heap.size ∧ k ≠ b2) A (2 * N) ns) (hN : N ≤ 1000000000) (hc : 2 * N ≤ c)
 (hK : ∀ (X : Nat) (W V : World) (v : Value), W = V.setCell ⟨b2, 4, none⟩ v → Below w0.heap.size w0 V → Kd.R k60 60 V (w0.heap.size + 2) (fun _ => True) v (pairsOf ns) → w0.heap.size ≤ X → V.heap[X]? = some (.deferred (some [])) → Q .normal { tmps := #[t0, t1, .pointer (some ⟨b2, 0, none⟩), t3, t4, t5, t6, t7, t8, t9, t10, t11, t12, t13, t14, t15, t16, t17, t18, t19, t20, t21, t22, t23, t24, t25, t26, t27, t28, t29, t30, t31, t32, t33, t34, t35, t36, t37, t38, t39, t40, t41, t42, t43, t44, t45, t46, t47, t48, t49, t50, t51, t52, t53, t54, t55, t56, t57, t58, t59, .func (.func 71) #[] #[.pointer (some ⟨w0.heap.size, 0, none⟩), .pointer (some ⟨w0.heap.size + 1, 0, none⟩)], t61, t62, t63, t64, t65, t66, t67, t68, t69, t70, t71, t72, t73, t74, t75, t76, t77, t78, t79, t80, t81, t82], defers := [{ target := .collected X, args := #[] }] } W) :
 (Code.rangeFunc (.tmp 60) #[61] as_ bd).wp Tryd.prog Q { tmps := #[t0, t1, .pointer (some ⟨b2, 0, none⟩), t3, t4, t5, t6, t7, t8, t9, t10, t11, t12, t13, t14, t15, t16, t17, t18, t19, t20, t21, t22, t23, t24, t25, t26, t27, t28, t29, t30, t31, t32, t33, t34, t35, t36, t37, t38, t39, t40, t41, t42, t43, t44, t45, t46, t47, t48, t49, t50, t51, t52, t53, t54, t55, t56, t57, t58, t59, .func (.func 71) #[] #[.pointer (some ⟨w0.heap.size, 0, none⟩), .pointer (some ⟨w0.heap.size + 1, 0, none⟩)], t61, t62, t63, t64, t65, t66, t67, t68, t69, t70, t71, t72, t73, t74, t75, t76, t77, t78, t79, t80, t81, t82], defers := [] } (W0 w0 A N c) := by
 simp only [Tryd.f21, Option.bind_some, findRange, Option.some.injEq, Prod.mk.injEq] at hcode
 obtain ⟨rfl, rfl⟩ := hcode
 have hb2 := blk_lt BK
 have hlen := Kd.F_len hF
 have hsz := W0_size w0 A N c
 have e1 : (W0 w0 A N c).heap[w0.heap.size]? = some (.cells #[.slice A (2 * N) c] 83 (0, 0)) := bkA (heap_alloc_new _ _) _
 have e2 : (W0 w0 A N c).heap[w0.heap.size + 1]? = some (.cells #[.int .i64 2] 3 (0, 0)) := by
  have : (w0.alloc (.cells #[.slice A (2 * N) c] 83)).heap.size = w0.heap.size + 1 := by simp
  unfold W0
  rw [← this]
  exact heap_alloc_new _ _
 have hb0 : Below w0.heap.size w0 (W0 w0 A N c) := pbA (pbA (Below.refl _ _) _) _
 have hA : 0 < N → ∃ ad, A = some ad := fun h => by
  obtain ⟨ad, e, _⟩ := Kd.at_int (Kd.F_now hF) 0 (by omega) (by omega)
  exact ⟨ad, e⟩
 refine (wpIn_wide (n := 5)).1 ?_
 refine wpIn_rangeFunc_ownG (F := Fence.wide) (n := 5) rfl (by decide) (gf := 71) (lb := #[.pointer (some ⟨w0.heap.size, 0, none⟩), .pointer (some ⟨w0.heap.size + 1, 0, none⟩)]) rfl trivial (enters_of Tryd.func71 (by kernel_rfl) rfl) (chunk_stops 4 (by decide) w0.heap.size A N c hN hc hA (W0 w0 A N c) (by omega) e1 e2) (fun h k => h.trans k) (fun W l o o' hl ho hnc hnw => ?hkb) (Below.refl _ _) (fun _ => rfl) (RI w0 (W0 w0 A N c) b2 v0 v1 v2 v3 v5 ns) (fun _ _ _ => False) (hsz ▸ RI_own w0 _ b2 v0 v1 v2 v3 v5 ns hb2 (Nat.le_of_eq hsz.symm)) (fun _ _ _ _ _ h _ _ => h) ?h0 ?a1 ?assign ?body ?done ?stop
 case assign =>
  intro l x W K hk
  gi_wp2
  exact hk
 case hkb =>
  rw [hsz] at hl
  exact ⟨World.putObj_heap_other (by omega), World.putObj_heap_other (by omega)⟩
 case h0 => exact ⟨_, bkA (bkA BK _) _, ⟨rfl, rfl, rfl, Nat.le_refl _, fun _ _ _ => rfl⟩, Kd.R_nil _ _ _ _ _⟩
 case body =>
  rintro l pre x W ⟨v, hv, hB, hR⟩ hlt
  obtain ⟨i, hi⟩ := x
  obtain ⟨ad, rfl⟩ := hA (by omega)
  have hsz2 : w0.heap.size + 2 ≤ W.heap.size := by have := hB.size; omega
  have hC : Kd.C (Kd.int .i64) W (some ad) (2 * N) ns := Kd.F_now (Kd.F_step hF (fun k hk _ => (hB.block k (by omega) hk.2).trans (hb0.block k hk.1)))
  obtain ⟨a2, ea, g0⟩ := Kd.at_int hC ((2 * i : Nat) : Int) (by omega) (by omega)
  cases ea
  obtain ⟨a3, ea, g1⟩ := Kd.at_int hC ((2 * i + 1 : Nat) : Int) (by omega) (by omega)
  cases ea
  rw [Int.toNat_natCast] at g0 g1
  have g2 : W.cell? ⟨(ad.add (2 * i)).block, (ad.add (2 * i)).off + 1, none⟩ = some (.int .i64 (rd ns ((2 * i + 1 : Nat) : Int))) := by rw [← add_field _ _ 1 (by omega)]; exact g1
  refine wpIn_block ?_
  simp only [Option.map_some]
  refine startIn_ (m := 13) (S := fun w' => w'.cell? ⟨b2, 4, none⟩ = some v ∧ w'.cell? (ad.add (2 * i)) = some (.int .i64 (rd ns ((2 * i : Nat) : Int))) ∧ w'.cell? ⟨(ad.add (2 * i)).block, (ad.add (2 * i)).off + 1, none⟩ = some (.int .i64 (rd ns ((2 * i + 1 : Nat) : Int)))) (ds := [10, 12]) #[false, false, false, false, false, false, false, false, false, false, false, false, false] (by kernel_rfl) ?lo ?df rfl rfl ⟨(bkC hv 4).trans rfl, g0, g2⟩ (fun hHeld => ?_)
  case lo => rintro ⟨a, w, h⟩; exact h
  case df => exact df_of (by kernel_rfl)
  have hvD : W.drew.heap[b2]? = some (.cells #[v0, v1, v2, v3, v, v5] 26 (0, 0)) := hv
  have hBD : BelowBut (w0.heap.size + 2) b2 (W0 w0 (some ad) N c) W.drew := ⟨hB.os, hB.tape, hB.output, hB.size, hB.block⟩
  have hRD := Kd.R_drew hR
  have hszD : w0.heap.size + 2 ≤ W.drew.heap.size := hsz2
  have hKD : KeepsOthers W W.drew := KeepsOthers.drew W
  have hxD : BoxKeep w0.heap.size W W.drew := ⟨rfl, rfl⟩
  generalize W.drew = Wd at hHeld hvD hBD hRD hszD hKD hxD ⊢
  refine pure_ (i := 0) (N := some 62) (v := ?_) (a' := ?_) #[true, false, false, false, false, false, false, false, false, false, false, false, false] rfl rfl (by kernel_rfl) (fun _ _ _ h => h) (Or.inl ⟨by rfl, ?_⟩) ?_ ?_
  rotate_left
  ·intro w'
   go_simp
   with_reducible rfl
  rotate_left
  ·simp only [Act.put, List.setIfInBounds_toArray, List.set_cons_zero, List.set_cons_succ, i64_w, i32_w]
   rfl
  refine pure_ (i := 2) (N := some 64) (v := ?_) (a' := ?_) #[true, false, true, false, false, false, false, false, false, false, false, false, false] rfl rfl (by kernel_rfl) (fun _ _ _ h => h) (Or.inl ⟨by rfl, ?_⟩) ?_ ?_
  rotate_left
  ·intro w'
   go_simp
   with_reducible rfl
  rotate_left
  ·simp only [Act.put, List.setIfInBounds_toArray, List.set_cons_zero, List.set_cons_succ, i64_w, i32_w]
   rfl
  refine pure_ (i := 3) (N := some 65) (v := ?_) (a' := ?_) #[true, false, true, true, false, false, false, false, false, false, false, false, false] rfl rfl (by kernel_rfl) (fun _ _ _ h => h) (Or.inl ⟨by rfl, ?_⟩) ?_ ?_
  rotate_left
  ·intro w'
   go_simp
   with_reducible rfl
  rotate_left
  ·simp only [Act.put, List.setIfInBounds_toArray, List.set_cons_zero, List.set_cons_succ, i64_w, i32_w]
   rfl
  refine pure_ (i := 5) (N := some 67) (v := ?_) (a' := ?_) #[true, false, true, true, false, true, false, false, false, false, false, false, false] rfl rfl (by kernel_rfl) (fun _ _ _ h => h) (Or.inl ⟨by rfl, ?_⟩) ?_ ?_
  rotate_left
  ·intro w'
   go_simp
   with_reducible rfl
  rotate_left
  ·simp only [Act.put, List.setIfInBounds_toArray, List.set_cons_zero, List.set_cons_succ, i64_w, i32_w]
   rfl
  refine pure_ (i := 6) (N := some 68) (v := ?_) (a' := ?_) #[true, false, true, true, false, true, true, false, false, false, false, false, false] rfl rfl (by kernel_rfl) (fun _ _ _ h => h) (Or.inl ⟨by rfl, ?_⟩) ?_ ?_
  rotate_left
  ·intro w'
   go_simp
   with_reducible rfl
  rotate_left
  ·simp only [Act.put, List.setIfInBounds_toArray, List.set_cons_zero, List.set_cons_succ, i64_w, i32_w]
   rfl
  refine take_ (i := 1) (N := some 63) (v := ?_) (a' := ?_) #[true, true, true, true, false, true, true, false, false, false, false, false, false] rfl rfl (by kernel_rfl) (fun _ _ _ h => h) (Or.inl ⟨by rfl, ?_⟩) hHeld ?_ ?_
  rotate_left
  ·rintro w' ⟨s0, s1, s2⟩
   go_simp
   with_reducible rfl
  rotate_left
  ·simp only [Act.put, List.setIfInBounds_toArray, List.set_cons_zero, List.set_cons_succ, i64_w, i32_w]
   rfl
  refine take_ (i := 4) (N := some 66) (v := ?_) (a' := ?_) #[true, true, true, true, true, true, true, false, false, false, false, false, false] rfl rfl (by kernel_rfl) (fun _ _ _ h => h) (Or.inl ⟨by rfl, ?_⟩) hHeld ?_ ?_
  rotate_left
  ·rintro w' ⟨s0, s1, s2⟩
   go_simp
   with_reducible rfl
  rotate_left
  ·simp only [Act.put, List.setIfInBounds_toArray, List.set_cons_zero, List.set_cons_succ, i64_w, i32_w]
   rfl
  refine take_ (i := 7) (N := some 69) (v := ?_) (a' := ?_) #[true, true, true, true, true, true, true, true, false, false, false, false, false] rfl rfl (by kernel_rfl) (fun _ _ _ h => h) (Or.inl ⟨by rfl, ?_⟩) hHeld ?_ ?_
  rotate_left
  ·rintro w' ⟨s0, s1, s2⟩
   go_simp
   with_reducible rfl
  rotate_left
  ·simp only [Act.put, List.setIfInBounds_toArray, List.set_cons_zero, List.set_cons_succ, i64_w, i32_w]
   rfl
  refine pure_ (i := 8) (N := some 70) (v := ?_) (a' := ?_) #[true, true, true, true, true, true, true, true, true, false, false, false, false] rfl rfl (by kernel_rfl) (fun _ _ _ h => h) (Or.inl ⟨by rfl, ?_⟩) ?_ ?_
  rotate_left
  ·intro w'
   go_simp
   with_reducible rfl
  rotate_left
  ·simp only [Act.put, List.setIfInBounds_toArray, List.set_cons_zero, List.set_cons_succ, i64_w, i32_w]
   rfl
  refine one_ (i := 9) (N := some 71) #[true, true, true, true, true, true, true, true, true, true, false, false, false] rfl rfl (by kernel_rfl) (by decide) (fun K hK => ?_)
  refine value_ (w1 := ?_) (v := ?_) (by rfl) rfl ?_ ?_
  rotate_left 2
  ·go_simp
   constructor
   ·rfl
   ·rfl
  have e0 : ((2 * i : Nat) : Int) = 2 * (i : Int) := by omega
  have e1_ : ((2 * i + 1 : Nat) : Int) = 2 * (i : Int) + 1 := by omega
  refine hK.out _ _ ⟨(bkC (bkA hvD _) 4).trans rfl, (World.cell?_alloc_lt _ _ _ (World.block_lt_of_cell? _ _ hHeld.2.1)).trans hHeld.2.1, (World.cell?_alloc_lt _ _ _ (World.block_lt_of_cell? _ _ hHeld.2.2)).trans hHeld.2.2⟩ (fun hHeld => ?_)
  clear hK K
  refine norm_ (a' := ?_) ?_ ?_
  rotate_left
  ·show Act.put _ (some 71) _ = _
   simp only [Act.put, List.setIfInBounds_toArray, List.set_cons_zero, List.set_cons_succ, i64_w, i32_w]
   rfl
  refine last_ (i := 10) (N := some 72) #[true, true, true, true, true, true, true, true, true, true, true, false, false] rfl rfl (by kernel_rfl) (by decide) (fun K hK => ?_)
  refine Kd.R_append_step k60 (w0 := Wd) (w0.heap.size + 2) (by rfl) (.tmp 63) (.tmp 71) 24 60 (.agg #[(.int .i64 0), (.int .i64 0)]) 16 rfl Tryd.underlying24 info60 rfl (by decide) (by omega) v (pre.map (fun i => pairAt ns i.1)) (⟨rd ns (2 * (i : Int)), rd ns (2 * (i : Int) + 1)⟩ : S60) [.int .i64 (rd ns (2 * (i : Int))), .int .i64 (rd ns (2 * (i : Int) + 1))] (fun _ => True) (fun _ => False) rfl rfl ?aP (fun _ hk => hk.elim) ?aF ?aO ?aB ?aS ?aL ?_
  case aP => exact k60_mkM _ _ _ (⟨rd ns (2 * (i : Int)), rd ns (2 * (i : Int) + 1)⟩ : S60)
  case aF => exact fun _ _ => trivial
  case aO => exact hRD
  case aB => exact Below.refl _ _
  case aS => exact hszD
  case aL => rw [List.length_map]; omega
  intro v2 w2 ho hb hg hat
  obtain ⟨Ao, co, rfl⟩ := Kd.R_slice ho
  have hv2 : w2.heap[b2]? = some (.cells #[v0, v1, v2, v3, v, v5] 26 (0, 0)) := (hb.block b2 (by omega)).trans hvD
  refine hK.out _ _ ?_
  clear hK K
  refine norm_ (a' := ?_) ?_ ?_
  rotate_left
  ·show Act.put _ (some 72) _ = _
   simp only [Act.put, List.setIfInBounds_toArray, List.set_cons_zero, List.set_cons_succ, i64_w, i32_w]
   rfl
  refine pure_ (i := 11) (N := some 73) (v := ?_) (a' := ?_) #[true, true, true, true, true, true, true, true, true, true, true, true, false] rfl rfl (by kernel_rfl) (fun _ _ _ h => h) (Or.inl ⟨by rfl, ?_⟩) ?_ ?_
  rotate_left
  ·intro w'
   go_simp
   with_reducible rfl
  rotate_left
  ·simp only [Act.put, List.setIfInBounds_toArray, List.set_cons_zero, List.set_cons_succ, i64_w, i32_w]
   rfl
  refine last_ (i := 12) (N := none) #[true, true, true, true, true, true, true, true, true, true, true, true, true] rfl rfl (by kernel_rfl) (by decide) (fun K hK => ?_)
  have hs2 := (bkC hv2 4).trans rfl
  have hf2 := bkF hv2 4
  refine skip_ (w1 := ?_) (by rfl) rfl ?_ ?_
  rotate_left
  ·go_simp
   rfl
  refine hK.out _ _ ?_
  clear hK K
  refine done_ (by kernel_rfl) ?_
  have hKO : KeepsOthers Wd w2 := KeepsOthers.of_grownBy hg (fun j o hj ho2 => by
   obtain ⟨_, _, _, q, _, cells, hcc⟩ := (Kd.R_bound hRD).1 j hj
   rw [hcc] at ho2
   cases ho2
   rfl)
  have hp : pairAt ns i = ⟨rd ns (2 * (i : Int)), rd ns (2 * (i : Int) + 1)⟩ := by
   unfold pairAt rd
   rw [show (2 * (i : Int)).toNat = 2 * i by omega, show (2 * (i : Int) + 1).toNat = 2 * i + 1 by omega]
  have hbk : ∀ k u, k < w0.heap.size + 2 → k ≠ b2 → (w2.setCell ⟨b2, 4, none⟩ u).heap[k]? = Wd.heap[k]? := fun k u h1 h2 => (Below.heap_setCell w2 ⟨b2, 4, none⟩ u k h2).trans (hb.block k h1)
  refine ⟨((hKD.trans hKO).trans (KeepsOthers.setCell _ _ _)).from _, hxD.trans ⟨hbk _ _ (by omega) (by omega), hbk _ _ (by omega) (by omega)⟩, _, blk_put hv2 4 _ rfl, (hBD.then hb).set 4 _, ?_⟩
  rw [List.map_append, List.map_singleton, hp]
  have hq := Kd.R_set ho hv2 (by decide) 4 (.slice Ao (pre.length + 1) co)
  simp only [List.length_append, List.length_map, List.length_singleton] at hq
  exact hq
 case done =>
  rintro X xs W hX rfl ⟨v, hv, hB, hR⟩ hdef
  rw [hsz] at hX
  refine hK X W (W.setCell ⟨b2, 4, none⟩ (.slice none 0 0)) v (set_back hv).symm ⟨hB.os, hB.tape, hB.output, ?_, ?_⟩ ?_ (by omega) ((Below.heap_setCell W ⟨b2, 4, none⟩ _ X (by simp only; omega)).trans hdef)
  ·have := hB.size
   rw [hsz] at this
   simp only [World.setCell_size_]
   omega
  ·intro k hk
   by_cases e : k = b2
   ·subst e
    exact (blk_put hv 4 _ rfl).trans BK.symm
   ·exact (Below.heap_setCell W ⟨b2, 4, none⟩ _ k e).trans ((hB.block k (by omega) e).trans (hb0.block k hk))
  ·have hm : (List.finRange N).map (fun i => pairAt ns i.1) = pairsOf ns := by
    rw [← pairs_range N ns hlen]
    apply List.ext_getElem
    ·simp
    ·intro j h1 h2
     simp
   rw [← hm]
   exact Kd.R_set hR hv (by decide) 4 _
 case stop => exact fun _ _ _ _ _ _ h _ => h.elim
end Go.Proofs.YtjfhcijjjadhbaaDoor.P
end
