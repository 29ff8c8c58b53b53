import Derived.Test.YtjpihfjgomoijaaDoorZRollChecks0
import Derived.ArgAppend
import Derived.Below
import Derived.BigQuiet
import Derived.ChangeOld
import Derived.DataReads
import Derived.Deep.AppendLies
import Derived.Deep.CutBlock
import Derived.Deep.DeepCutAuto
import Derived.Deep.DeepHandedRow
import Derived.Deep.DeepWitnessRowRef
import Derived.Deep.Draws
import Derived.Deep.LoopGhost
import Derived.Deep.OwnRows
import Derived.Deep.QuietTactic
import Derived.Deep.RegionHeld3
import Derived.IntWalk
import Derived.KernelRfl
import Derived.LaidHandle
import Derived.LaidMore
import Derived.Laws.BitsLemmas
import Derived.Laws.BytesArg
import Derived.Laws.Externs
import Derived.Laws.IdiomCopy
import Derived.Laws.MakeOwn
import Derived.Laws.OwnMore
import Derived.Laws.Rows
import Derived.Laws.Slices
import Derived.Lib.AppendStr
import Derived.Lib.Builder
import Derived.Lib.ConvBytes
import Derived.Lib.Hide
import Derived.Lib.IndexMore
import Derived.Lib.ItoaLen
import Derived.Lib.LaidTab
import Derived.Lib.MakeNoZero
import Derived.Lib.ParseIntB
import Derived.Lib.Slices
import Derived.Lib.Strings
import Derived.Lib.UnsafeStr
import Derived.Lib.Walk
import Derived.LoopTactic
import Derived.Maps.AppendAt
import Derived.OpenShut
import Derived.OrdersHeld
import Derived.Outline
import Derived.OwnWalk
import Derived.ProofKit
import Derived.RowKit
import Derived.RowKit3
import Derived.Shelf.LaysC
import Derived.Shelf.LaysM
import Derived.Shelf.Strconv.Clone
import Derived.Shelf.Strconv.ErrVarParseInt
import Derived.Shelf.Strconv.Itoa0
import Derived.Shelf.Strconv.Itoa1
import Derived.Shelf.Strconv.Itoa2
import Derived.Shelf.Strconv.Itoa3
import Derived.Shelf.Strconv.Itoa4
import Derived.Shelf.Strconv.Lower
import Derived.Shelf.Strconv.ParseInt10
import Derived.Shelf.Strconv.ParseInt10All
import Derived.Shelf.Strconv.ParseInt10At16
import Derived.Shelf.Strconv.ParseInt10At32
import Derived.Shelf.Strconv.ParseInt10At64
import Derived.Shelf.Strconv.ParseInt10At8
import Derived.Shelf.Strconv.ParseIntEmpty
import Derived.Shelf.Strconv.ParseIntPublic10
import Derived.Shelf.Strconv.ParseUint10
import Derived.Shelf.Strconv.ParseUint10Any
import Derived.Shelf.Strconv.ParseUint10At
import Derived.Shelf.Strconv.ParseUint10Empty
import Derived.Shelf.Strconv.ParseUint10b16
import Derived.Shelf.Strconv.ParseUint10b32
import Derived.Shelf.Strconv.ParseUint10b64
import Derived.Shelf.Strconv.ParseUint10b8
import Derived.Shelf.Strconv.ParseUintEmpty
import Derived.Shelf.Strconv.RangeError
import Derived.Shelf.Strconv.SyntaxError
import Derived.Shelf.Strconv.ToError
import Derived.Shelf.Strconv.ToErrorRange
import Derived.Shelf.Strings.Builder1
import Derived.Shelf.Strings.BuilderF
import Derived.Shelf.Strings.BuilderK
import Derived.Shelf.Strings.Cut
import Derived.Shelf.Strings.Search1
import Derived.Shelf.Strings.Search2
import Derived.Shelf.Strings.Shaped
import Derived.Shelf.Vars
import Derived.ShutString
import Derived.SizedLaws
import Derived.Tactics
import Derived.WalkKit
import Derived.WalkSmall
import Derived.WalkSpells
import Derived.WideLaws
import GoSem.ClaimJoined
import Derived.Test.YtjpihfjgomoijaaDoorCards
import Derived.Test.YtjpihfjgomoijaaDoorProg
import Derived.Test.YtjpihfjgomoijaaDoorRows
import Derived.Test.YtjpihfjgomoijaaDoorTie
set_option linter.unusedVariables false
set_option linter.unusedSimpArgs false
set_option linter.unnecessarySimpa false
section
/- The kit's shelf of contracts at this dump, in plain words (written by lay-plain.mjs; picked by wip/tools/shelfsel.py): the contracts named below and what they use. -/
namespace Go.Proofs
open Go.Shelf
def Tryd.lays169_ren : Go.Shelf.Ren := ⟨fun | 169 => 51 | n => n, fun | 70 => 80 | 9 => 9 | 0 => 0 | 72 => 83 | 37 => 81 | 127 => 93 | 3 => 3 | 5 => 5 | n => n, fun | n => n⟩
theorem Tryd.lays169 : Go.Proofs.Lays.n169 Tryd.prog Tryd.lays169_ren := {
  mixed := by kernel_rfl
  f169 := Tryd.func51.trans (congrArg some (by kernel_rfl))
  t0 := Tryd.underlying0
  a0 := Tryd.isAgg0
  z0 := Tryd.sizeOf0
  v0 := Tryd.zeroValue0
  t3 := Tryd.underlying3
  a3 := Tryd.isAgg3
  z3 := Tryd.sizeOf3
  v3 := Tryd.zeroValue3
  t9 := Tryd.underlying9
  a9 := Tryd.isAgg9
  z9 := Tryd.sizeOf9
  v9 := Tryd.zeroValue9
  t37 := Tryd.underlying81
  a37 := Tryd.isAgg81
  z37 := Tryd.sizeOf81
  v37 := Tryd.zeroValue81
  t70 := Tryd.underlying80
  a70 := Tryd.isAgg80
  z70 := Tryd.sizeOf80
  v70 := Tryd.zeroValue80
  t72 := Tryd.underlying83
  a72 := Tryd.isAgg83
  z72 := Tryd.sizeOf83
  v72 := Tryd.zeroValue83
  t127 := Tryd.underlying93
  a127 := Tryd.isAgg93
  z127 := Tryd.sizeOf93
  v127 := Tryd.zeroValue93 }
theorem Tryd.Builder_Extra_169 : Builder.Extra Tryd.prog Tryd.lays169_ren := {
  sizeBuilder := by kernel_rfl
  liesBuilder := by kernel_rfl
  t5 := Tryd.underlying5
  a5 := Tryd.isAgg5
  z5 := Tryd.sizeOf5
  v5 := Tryd.zeroValue5
  infoByte := by kernel_rfl
  cellsByte := by kernel_rfl
  sizeByte := by kernel_rfl
  neB5 := by decide }
open Go.RowKit in
/-- (*strings.Builder).String: "String returns the accumulated string.": WHATEVER THE BUILDER HOLDS. (LAID: no walk: one application.) -/
theorem Tryd.Builder_String_any (B b : Nat) (l : List UInt8) (w : World) (h : Lib.IsBuilder 83 5 B b (Lib.byteCells l) w) (hBw : B ≤ w.heap.size) :
    Calls Tryd.prog 51 #[.pointer (some ⟨b, 0, none⟩)] w fun e w' => e = .returned (.string ⟨l.toArray⟩) ∧ Below B w w' := Any.Builder_String_any Tryd.lays169 Tryd.Builder_Extra_169 B b l w h hBw
def Tryd.laysM173_ren : Go.Shelf.Ren := ⟨fun | 173 => 48 | 246 => 57 | 283 => 65 | 284 => 66 | 285 => 67 | 286 => 68 | 129 => 77 | 317 => 76 | 318 => 78 | 319 => 79 | 320 => 80 | 337 => 86 | 338 => 87 | n => n, fun | 2 => 2 | 3 => 3 | 9 => 9 | 4 => 4 | 171 => 102 | 0 => 0 | 53 => 78 | 37 => 81 | 5 => 5 | 173 => 105 | 212 => 117 | 51 => 118 | 20 => 20 | 213 => 119 | 46 => 97 | 232 => 129 | 233 => 130 | n => n, fun | 17 => 2 | 18 => 4 | 19 => 5 | n => n⟩
theorem Tryd.laysM173 : Go.Proofs.LaysM.n173 Tryd.prog Tryd.laysM173_ren := {
  mixed := by kernel_rfl
  f129 := Tryd.func77.trans (congrArg some (by kernel_rfl))
  f173 := Tryd.func48.trans (congrArg some (by kernel_rfl))
  f246 := Tryd.func57.trans (congrArg some (by kernel_rfl))
  f283 := Tryd.func65.trans (congrArg some (by kernel_rfl))
  f284 := Tryd.func66.trans (congrArg some (by kernel_rfl))
  f285 := Tryd.func67.trans (congrArg some (by kernel_rfl))
  f286 := Tryd.func68.trans (congrArg some (by kernel_rfl))
  f317 := Tryd.func76.trans (congrArg some (by kernel_rfl))
  f318 := Tryd.func78.trans (congrArg some (by kernel_rfl))
  f319 := Tryd.func79.trans (congrArg some (by kernel_rfl))
  f320 := Tryd.func80.trans (congrArg some (by kernel_rfl))
  f337 := Tryd.func86.trans (congrArg some (by kernel_rfl))
  f338 := Tryd.func87.trans (congrArg some (by kernel_rfl))
  t0 := Tryd.underlying0
  a0 := Tryd.isAgg0
  z0 := Tryd.sizeOf0
  v0 := Tryd.zeroValue0
  t2 := Tryd.underlying2
  a2 := Tryd.isAgg2
  z2 := Tryd.sizeOf2
  v2 := Tryd.zeroValue2
  t3 := Tryd.underlying3
  a3 := Tryd.isAgg3
  z3 := Tryd.sizeOf3
  v3 := Tryd.zeroValue3
  t4 := Tryd.underlying4
  a4 := Tryd.isAgg4
  z4 := Tryd.sizeOf4
  v4 := Tryd.zeroValue4
  t5 := Tryd.underlying5
  a5 := Tryd.isAgg5
  z5 := Tryd.sizeOf5
  v5 := Tryd.zeroValue5
  t9 := Tryd.underlying9
  a9 := Tryd.isAgg9
  z9 := Tryd.sizeOf9
  v9 := Tryd.zeroValue9
  t20 := Tryd.underlying20
  a20 := Tryd.isAgg20
  z20 := Tryd.sizeOf20
  v20 := Tryd.zeroValue20
  t37 := Tryd.underlying81
  a37 := Tryd.isAgg81
  z37 := Tryd.sizeOf81
  v37 := Tryd.zeroValue81
  t46 := Tryd.underlying97
  a46 := Tryd.isAgg97
  z46 := Tryd.sizeOf97
  v46 := Tryd.zeroValue97
  t51 := Tryd.underlying118
  a51 := Tryd.isAgg118
  z51 := Tryd.sizeOf118
  v51 := Tryd.zeroValue118
  t53 := Tryd.underlying78
  a53 := Tryd.isAgg78
  z53 := Tryd.sizeOf78
  v53 := Tryd.zeroValue78
  t171 := Tryd.underlying102
  a171 := Tryd.isAgg102
  z171 := Tryd.sizeOf102
  v171 := Tryd.zeroValue102
  t173 := Tryd.underlying105
  a173 := Tryd.isAgg105
  z173 := Tryd.sizeOf105
  v173 := Tryd.zeroValue105
  t212 := Tryd.underlying117
  a212 := Tryd.isAgg117
  z212 := Tryd.sizeOf117
  v212 := Tryd.zeroValue117
  t213 := Tryd.underlying119
  a213 := Tryd.isAgg119
  z213 := Tryd.sizeOf119
  t232 := Tryd.underlying129
  a232 := Tryd.isAgg129
  z232 := Tryd.sizeOf129
  v232 := Tryd.zeroValue129
  t233 := Tryd.underlying130
  a233 := Tryd.isAgg130
  z233 := Tryd.sizeOf130
  v233 := Tryd.zeroValue130
  g17 := by kernel_rfl
  g18 := by kernel_rfl
  g19 := by kernel_rfl
  i0 := by kernel_rfl
  i2 := by kernel_rfl
  i3 := by kernel_rfl
  i4 := by kernel_rfl
  i5 := by kernel_rfl
  i9 := by kernel_rfl
  i20 := by kernel_rfl
  i37 := by kernel_rfl
  i46 := by kernel_rfl
  i51 := by kernel_rfl
  i53 := by kernel_rfl
  i171 := by kernel_rfl
  i173 := by kernel_rfl
  i212 := by kernel_rfl
  i232 := by kernel_rfl
  i233 := by kernel_rfl
  m17 := by kernel_rfl
  m18 := by kernel_rfl
  m19 := by kernel_rfl }
open Go.RowKit Go.Sort Go.Lib in
/-- strconv.FormatInt: "FormatInt returns the string representation of i in the given base": AT BASE 10: i's decimal numeral, for every int64. (LAID: no walk: one application.) -/
theorem Tryd.strconv_FormatInt_10 (n : Int) (h0 : -9223372036854775808 ≤ n) (h1 : n ≤ 9223372036854775807) (w : World) (htab : Lib.TabIs Tryd.prog w "internal/strconv.uint64pow10" .u64 Lib.pow10Tab) :
    Calls Tryd.prog 48 #[.int .i64 n, .int .i64 10] w fun e w' => e = .returned (.string ⟨(Lib.itoa n).toArray⟩) ∧ ∃ k os, w' = grow (w.drewN k) os := Any.strconv_FormatInt_10 Tryd.laysM173 n h0 h1 w htab
def Tryd.laysC174_ren : Go.Shelf.Ren := ⟨fun | 174 => 46 | 247 => 55 | 245 => 56 | 287 => 60 | 279 => 61 | 280 => 62 | 281 => 63 | 282 => 64 | 321 => 71 | 322 => 72 | 316 => 73 | 171 => 75 | 205 => 74 | 243 => 85 | 246 => 57 | 283 => 65 | 284 => 66 | 285 => 67 | 286 => 68 | 129 => 77 | 317 => 76 | 318 => 78 | 319 => 79 | 320 => 80 | 337 => 86 | 338 => 87 | n => n, fun | 9 => 9 | 3 => 3 | 2 => 2 | 75 => 73 | 85 => 74 | 4 => 4 | 167 => 94 | 5 => 5 | 53 => 78 | 175 => 95 | 46 => 97 | 168 => 98 | 37 => 81 | 0 => 0 | 210 => 113 | 21 => 21 | 127 => 93 | 145 => 125 | 143 => 123 | 171 => 102 | 173 => 105 | 212 => 117 | 51 => 118 | 20 => 20 | 213 => 119 | 232 => 129 | 233 => 130 | 80 => 87 | n => n, fun | 15 => 0 | 16 => 1 | 17 => 2 | 18 => 4 | 19 => 5 | n => n⟩
theorem Tryd.laysC174 : Go.Proofs.LaysC.n174 Tryd.prog Tryd.laysC174_ren := {
  mixed := by kernel_rfl
  f129 := Tryd.func77.trans (congrArg some (by kernel_rfl))
  f171 := Tryd.func75.trans (congrArg some (by kernel_rfl))
  f174 := Tryd.func46.trans (congrArg some (by kernel_rfl))
  f205 := Tryd.func74.trans (congrArg some (by kernel_rfl))
  f243 := Tryd.func85.trans (congrArg some (by kernel_rfl))
  f245 := Tryd.func56.trans (congrArg some (by kernel_rfl))
  f246 := Tryd.func57.trans (congrArg some (by kernel_rfl))
  f247 := Tryd.func55.trans (congrArg some (by kernel_rfl))
  f279 := Tryd.func61.trans (congrArg some (by kernel_rfl))
  f280 := Tryd.func62.trans (congrArg some (by kernel_rfl))
  f281 := Tryd.func63.trans (congrArg some (by kernel_rfl))
  f282 := Tryd.func64.trans (congrArg some (by kernel_rfl))
  f283 := Tryd.func65.trans (congrArg some (by kernel_rfl))
  f284 := Tryd.func66.trans (congrArg some (by kernel_rfl))
  f285 := Tryd.func67.trans (congrArg some (by kernel_rfl))
  f286 := Tryd.func68.trans (congrArg some (by kernel_rfl))
  f287 := Tryd.func60.trans (congrArg some (by kernel_rfl))
  f316 := Tryd.func73.trans (congrArg some (by kernel_rfl))
  f317 := Tryd.func76.trans (congrArg some (by kernel_rfl))
  f318 := Tryd.func78.trans (congrArg some (by kernel_rfl))
  f319 := Tryd.func79.trans (congrArg some (by kernel_rfl))
  f320 := Tryd.func80.trans (congrArg some (by kernel_rfl))
  f321 := Tryd.func71.trans (congrArg some (by kernel_rfl))
  f322 := Tryd.func72.trans (congrArg some (by kernel_rfl))
  f337 := Tryd.func86.trans (congrArg some (by kernel_rfl))
  f338 := Tryd.func87.trans (congrArg some (by kernel_rfl))
  t0 := Tryd.underlying0
  a0 := Tryd.isAgg0
  z0 := Tryd.sizeOf0
  v0 := Tryd.zeroValue0
  t2 := Tryd.underlying2
  a2 := Tryd.isAgg2
  z2 := Tryd.sizeOf2
  v2 := Tryd.zeroValue2
  t3 := Tryd.underlying3
  a3 := Tryd.isAgg3
  z3 := Tryd.sizeOf3
  v3 := Tryd.zeroValue3
  t4 := Tryd.underlying4
  a4 := Tryd.isAgg4
  z4 := Tryd.sizeOf4
  v4 := Tryd.zeroValue4
  t5 := Tryd.underlying5
  a5 := Tryd.isAgg5
  z5 := Tryd.sizeOf5
  v5 := Tryd.zeroValue5
  t9 := Tryd.underlying9
  a9 := Tryd.isAgg9
  z9 := Tryd.sizeOf9
  v9 := Tryd.zeroValue9
  t20 := Tryd.underlying20
  a20 := Tryd.isAgg20
  z20 := Tryd.sizeOf20
  v20 := Tryd.zeroValue20
  t21 := Tryd.underlying21
  a21 := Tryd.isAgg21
  z21 := Tryd.sizeOf21
  v21 := Tryd.zeroValue21
  t37 := Tryd.underlying81
  a37 := Tryd.isAgg81
  z37 := Tryd.sizeOf81
  v37 := Tryd.zeroValue81
  t46 := Tryd.underlying97
  a46 := Tryd.isAgg97
  z46 := Tryd.sizeOf97
  v46 := Tryd.zeroValue97
  t51 := Tryd.underlying118
  a51 := Tryd.isAgg118
  z51 := Tryd.sizeOf118
  v51 := Tryd.zeroValue118
  t53 := Tryd.underlying78
  a53 := Tryd.isAgg78
  z53 := Tryd.sizeOf78
  v53 := Tryd.zeroValue78
  t75 := Tryd.underlying73
  a75 := Tryd.isAgg73
  z75 := Tryd.sizeOf73
  v75 := Tryd.zeroValue73
  t85 := Tryd.underlying74
  a85 := Tryd.isAgg74
  z85 := Tryd.sizeOf74
  v85 := Tryd.zeroValue74
  t127 := Tryd.underlying93
  a127 := Tryd.isAgg93
  z127 := Tryd.sizeOf93
  v127 := Tryd.zeroValue93
  t143 := Tryd.underlying123
  a143 := Tryd.isAgg123
  z143 := Tryd.sizeOf123
  v143 := Tryd.zeroValue123
  t145 := Tryd.underlying125
  a145 := Tryd.isAgg125
  z145 := Tryd.sizeOf125
  v145 := Tryd.zeroValue125
  t167 := Tryd.underlying94
  a167 := Tryd.isAgg94
  z167 := Tryd.sizeOf94
  v167 := Tryd.zeroValue94
  t168 := Tryd.underlying98
  a168 := Tryd.isAgg98
  z168 := Tryd.sizeOf98
  v168 := Tryd.zeroValue98
  t171 := Tryd.underlying102
  a171 := Tryd.isAgg102
  z171 := Tryd.sizeOf102
  v171 := Tryd.zeroValue102
  t173 := Tryd.underlying105
  a173 := Tryd.isAgg105
  z173 := Tryd.sizeOf105
  v173 := Tryd.zeroValue105
  t175 := Tryd.underlying95
  a175 := Tryd.isAgg95
  z175 := Tryd.sizeOf95
  v175 := Tryd.zeroValue95
  t210 := Tryd.underlying113
  a210 := Tryd.isAgg113
  z210 := Tryd.sizeOf113
  v210 := Tryd.zeroValue113
  t212 := Tryd.underlying117
  a212 := Tryd.isAgg117
  z212 := Tryd.sizeOf117
  v212 := Tryd.zeroValue117
  t213 := Tryd.underlying119
  a213 := Tryd.isAgg119
  z213 := Tryd.sizeOf119
  t232 := Tryd.underlying129
  a232 := Tryd.isAgg129
  z232 := Tryd.sizeOf129
  v232 := Tryd.zeroValue129
  t233 := Tryd.underlying130
  a233 := Tryd.isAgg130
  z233 := Tryd.sizeOf130
  v233 := Tryd.zeroValue130
  g15 := by kernel_rfl
  g16 := by kernel_rfl
  g17 := by kernel_rfl
  g18 := by kernel_rfl
  g19 := by kernel_rfl
  t80 := Tryd.underlying87
  a80 := Tryd.isAgg87
  z80 := Tryd.sizeOf87
  v80 := Tryd.zeroValue87
  i0 := by kernel_rfl
  i2 := by kernel_rfl
  i3 := by kernel_rfl
  i4 := by kernel_rfl
  i5 := by kernel_rfl
  i9 := by kernel_rfl
  i20 := by kernel_rfl
  i21 := by kernel_rfl
  i37 := by kernel_rfl
  i46 := by kernel_rfl
  i51 := by kernel_rfl
  i53 := by kernel_rfl
  i75 := by kernel_rfl
  i80 := by kernel_rfl
  i85 := by kernel_rfl
  i127 := by kernel_rfl
  i143 := by kernel_rfl
  i145 := by kernel_rfl
  i167 := by kernel_rfl
  i168 := by kernel_rfl
  i171 := by kernel_rfl
  i173 := by kernel_rfl
  i175 := by kernel_rfl
  i210 := by kernel_rfl
  i212 := by kernel_rfl
  i232 := by kernel_rfl
  i233 := by kernel_rfl
  m15 := by kernel_rfl
  m16 := by kernel_rfl
  m17 := by kernel_rfl
  m18 := by kernel_rfl
  m19 := by kernel_rfl
  c0 := by kernel_rfl
  c2 := by kernel_rfl
  c3 := by kernel_rfl
  c4 := by kernel_rfl
  c5 := by kernel_rfl
  c9 := by kernel_rfl
  c20 := by kernel_rfl
  c21 := by kernel_rfl
  c37 := by kernel_rfl
  c46 := by kernel_rfl
  c51 := by kernel_rfl
  c53 := by kernel_rfl
  c75 := by kernel_rfl
  c80 := by kernel_rfl
  c85 := by kernel_rfl
  c127 := by kernel_rfl
  c143 := by kernel_rfl
  c145 := by kernel_rfl
  c167 := by kernel_rfl
  c168 := by kernel_rfl
  c171 := by kernel_rfl
  c173 := by kernel_rfl
  c175 := by kernel_rfl
  c210 := by kernel_rfl
  c212 := by kernel_rfl
  c213 := by kernel_rfl
  c232 := by kernel_rfl
  c233 := by kernel_rfl }
open Go.RowKit in
/-- strconv.ParseInt(s, 10, 64), AT EVERY STRING THAT SPELLS AN int64 ('Lib.parseIntB 64 s.data.toList = .ok v'): v, AND NO ERROR. (LAID: no walk: one application.) -/
theorem Tryd.strconv_ParseInt_10_at64_ok (s : ByteArray) (hmax : s.size ≤ 9223372036854775806) (v : Int) (h : Lib.parseIntB 64 s.data.toList = .ok v) (w : World) :
    Calls Tryd.prog 46 #[.string s, .int .i64 10, .int .i64 64] w fun e w' => e = .returned (.tuple #[.int .i64 v, .nilIface]) ∧ (w' = w ∨ ∃ t, w' = Lib.bytesWorld w 5 t) := Any.strconv_ParseInt_10_at64_ok Tryd.laysC174 s hmax v h w
open Go.RowKit in
/-- strconv.ParseInt(s, 10, 64), AT EVERY NUMERAL THAT NO int64 HOLDS: THE GREATEST OR THE LEAST int64, BY THE SIGN ('Lib.intSat 64'), AND AN ERROR THAT IS NOT nil: a *NumError in a new block N: {Func: "ParseInt", Num: s's bytes, Err: what the variable ErrRange holds}. Of what was there nothing has turned. (LAID: no walk: one application.) -/
theorem Tryd.strconv_ParseInt_10_at64_range (s : ByteArray) (hlim : s.size ≤ 281474976710656) (h : Lib.parseIntB 64 s.data.toList = .range) (ev : Value) (w : World) (hv : w.cell? ⟨1, 0, none⟩ = some ev) (hev : ev = .nilIface ∨ ∃ te pe, ev = .iface te pe) :
    Calls Tryd.prog 46 #[.string s, .int .i64 10, .int .i64 64] w fun e w' => ∃ N, e = .returned (.tuple #[.int .i64 (Lib.intSat 64 s.data.toList), .iface 98 (.pointer (some ⟨N, 0, none⟩))]) ∧ w.heap.size ≤ N ∧ w'.heap[N]? = some (.cells #[.string ⟨#[80, 97, 114, 115, 101, 73, 110, 116]⟩, .string s, ev] 113 (0, 0)) ∧ Below w.heap.size w w' := Any.strconv_ParseInt_10_at64_range Tryd.laysC174 s hlim h ev w hv hev
def Tryd.lays145_ren : Go.Shelf.Ren := ⟨fun | 145 => 54 | 220 => 59 | 219 => 70 | 217 => 81 | 225 => 82 | 224 => 83 | 267 => 84 | 266 => 88 | 314 => 89 | n => n, fun | 9 => 9 | 4 => 4 | 59 => 90 | 3 => 3 | 5 => 5 | 46 => 97 | 146 => 127 | 51 => 118 | n => n, fun | 1 => 3 | n => n⟩
theorem Tryd.lays145 : Go.Proofs.Lays.n145 Tryd.prog Tryd.lays145_ren := {
  mixed := by kernel_rfl
  f145 := Tryd.func54.trans (congrArg some (by kernel_rfl))
  f217 := Tryd.func81.trans (congrArg some (by kernel_rfl))
  f219 := Tryd.func70.trans (congrArg some (by kernel_rfl))
  f220 := Tryd.func59.trans (congrArg some (by kernel_rfl))
  f224 := Tryd.func83.trans (congrArg some (by kernel_rfl))
  f225 := Tryd.func82.trans (congrArg some (by kernel_rfl))
  f266 := Tryd.func88.trans (congrArg some (by kernel_rfl))
  f267 := Tryd.func84.trans (congrArg some (by kernel_rfl))
  f314 := Tryd.func89.trans (congrArg some (by kernel_rfl))
  t3 := Tryd.underlying3
  a3 := Tryd.isAgg3
  z3 := Tryd.sizeOf3
  v3 := Tryd.zeroValue3
  t4 := Tryd.underlying4
  a4 := Tryd.isAgg4
  z4 := Tryd.sizeOf4
  v4 := Tryd.zeroValue4
  t5 := Tryd.underlying5
  a5 := Tryd.isAgg5
  z5 := Tryd.sizeOf5
  v5 := Tryd.zeroValue5
  t9 := Tryd.underlying9
  a9 := Tryd.isAgg9
  z9 := Tryd.sizeOf9
  v9 := Tryd.zeroValue9
  t46 := Tryd.underlying97
  a46 := Tryd.isAgg97
  z46 := Tryd.sizeOf97
  v46 := Tryd.zeroValue97
  t51 := Tryd.underlying118
  a51 := Tryd.isAgg118
  z51 := Tryd.sizeOf118
  v51 := Tryd.zeroValue118
  t59 := Tryd.underlying90
  a59 := Tryd.isAgg90
  z59 := Tryd.sizeOf90
  v59 := Tryd.zeroValue90
  t146 := Tryd.underlying127
  a146 := Tryd.isAgg127
  z146 := Tryd.sizeOf127
  v146 := Tryd.zeroValue127
  g1 := by kernel_rfl }
open Go.RowKit Go.Lib in
/-- strings.Cut: "Cut slices s around the first instance of sep, returning the text before and after sep. The found result reports whether sep appears in s. If sep does not appear in s, cut returns s, "", false.": IT RETURNS 'Lib.cut s sep'; the world is as it was but for the count of draws. (LAID: no walk: one application.) -/
theorem Tryd.strings_Cut (s sep : ByteArray) (m : Int) (w : World) (hs : s.size < 4294967281) (hm : w.cell? ⟨3, 0, none⟩ = some (.int .i64 m)) :
    Calls Tryd.prog 54 #[.string s, .string sep] w fun e w' => e = .returned (.tuple #[.string ⟨(Lib.cut s.data.toList sep.data.toList).1.toArray⟩, .string ⟨(Lib.cut s.data.toList sep.data.toList).2.1.toArray⟩, .bool (Lib.cut s.data.toList sep.data.toList).2.2]) ∧ ∃ n, w' = w.drewN n := Any.strings_Cut Tryd.lays145 s sep m w hs hm
end Go.Proofs
end
section
/- strings.Builder's writers over this dump (their copyCheck differs from the shelf's): what a Builder of the call's own holds behind WriteByte and WriteString. Turned from the kit's shelf text on the Builder. -/
namespace Go.Proofs.YtjpihfjgomoijaaDoor.K
open Go.RowKit Go.Proofs.YtjpihfjgomoijaaDoorW.PrintWords
theorem sizeB : (Tryd.prog.info? 83).map (·.size) = some 2 := by kernel_rfl
theorem liesB : liesAt Tryd.prog Tryd.prog.depth 83 (2 / Tryd.prog.cellsOf 83) 0 83 1 = true := by kernel_rfl
theorem infoByte : (Tryd.prog.info? 5).map (fun i => (i.zero, i.size, i.bytes)) = some (some (.int .u8 0), 1, 1) := by kernel_rfl
set_option maxHeartbeats 1000000 in
set_option maxRecDepth 100000 in
theorem copyCheck_used (b : Nat) (w : World) (h0 : w.cell? ⟨b, 0, none⟩ = some (.pointer (some ⟨b, 0, none⟩))) :
    Calls Tryd.prog 58 #[.pointer (some ⟨b, 0, none⟩)] w fun e w' => e = .returned (.tuple #[]) ∧ w' = w := by
  obtain ⟨j, hj, _⟩ := Option.map_eq_some_iff.1 sizeB
  go_enter Tryd.func58, Tryd.ntmps58
  go_wp2
  rw [Lib.run_neq_ptr_same w _ Tryd.underlying80 hj]
  go_wp2
  go_end0
  exact ⟨rfl, rfl⟩
set_option maxHeartbeats 1000000 in
set_option maxRecDepth 100000 in
theorem copyCheck_fresh (b : Nat) (w : World) (h0 : w.cell? ⟨b, 0, none⟩ = some (.pointer none)) (hsh : w.shape? b = some (83, 2)) (hfz : w.frozen? ⟨b, 0, none⟩ = false) :
    Calls Tryd.prog 58 #[.pointer (some ⟨b, 0, none⟩)] w fun e w' => e = .returned (.tuple #[]) ∧ w' = w.setCell ⟨b, 0, none⟩ (.pointer (some ⟨b, 0, none⟩)) := by
  obtain ⟨j, hj, hjs⟩ := Option.map_eq_some_iff.1 sizeB
  go_enter Tryd.func58, Tryd.ntmps58
  go_wp2
  rw [Lib.run_to_unsafe w ⟨b, 0, none⟩ Tryd.underlying80 Tryd.underlying107 hj (by rw [hjs]; decide) hsh (Nat.zero_lt_succ 1)]
  simp only [Result.andThen]
  rw [Oper.upon_value]
  go_wp2
  rw [run_callFunc_extern Tryd.func69 (by kernel_rfl) (by kernel_rfl) (by kernel_rfl) (e := Extern.AbiNoEscape.same) (by kernel_rfl)]
  rw [Lib.run_noEscape]
  simp only [Result.andThen]
  rw [Oper.upon_value]
  go_wp2
  rw [Lib.run_from_unsafe w ⟨b, 0, none⟩ Tryd.underlying107 Tryd.underlying80 hj hsh liesB]
  simp only [Result.andThen]
  rw [Oper.upon_value]
  go_wp2
  go_end0
  exact ⟨rfl, rfl⟩
theorem copyCheck (B b : Nat) (bs : List Value) (w : World) (h : Lib.IsBuilder 83 5 B b bs w) :
    Calls Tryd.prog 58 #[.pointer (some ⟨b, 0, none⟩)] w fun e w' => e = .returned (.tuple #[]) ∧ (Lib.BuilderAt 83 5 B b (.pointer (some ⟨b, 0, none⟩)) bs w' ∧ Below B w w') := by
  rcases h with h | h
  · refine (copyCheck_fresh b w h.cell0 h.shape h.frozen0).mono ?_
    rintro e w' ⟨rfl, rfl⟩
    exact ⟨rfl, h.used _, (Below.refl B w).setCell (p := ⟨b, 0, none⟩) h.1 _⟩
  · refine (copyCheck_used b w h.cell0).mono ?_
    rintro e w' ⟨rfl, rfl⟩
    exact ⟨rfl, h, Below.refl B _⟩
set_option maxHeartbeats 2000000 in
set_option maxRecDepth 100000 in
theorem writeByte (B b : Nat) (bs : List Value) (c : Int) (w : World) (h : Lib.IsBuilder 83 5 B b bs w) (hlen : bs.length + 1 ≤ 140737488355328) (hBw : B ≤ w.heap.size) :
    Calls Tryd.prog 50 #[.pointer (some ⟨b, 0, none⟩), .int .u8 c] w fun e w' => e = .returned .nilIface ∧ (Lib.BuilderAt 83 5 B b (.pointer (some ⟨b, 0, none⟩)) (bs ++ [.int .u8 c]) w' ∧ Below B w w') := by
  obtain ⟨i0, hi, hz0, hz1, hz2⟩ := info_parts infoByte
  go_enter Tryd.func50, Tryd.ntmps50
  go_wp2_with (go_at_call 58; refine (copyCheck B b bs _ h).mono ?_)
  rintro e w1 ⟨rfl, h1, hb1⟩
  obtain ⟨hB, v, hbk, hown, hne⟩ := h1
  have c0 : w1.cell? ⟨b, 0, none⟩ = some (.pointer (some ⟨b, 0, none⟩)) := by rw [Lib.cell_of_heap hbk]; rfl
  have c1 : w1.cell? ⟨b, 1, none⟩ = some v := by rw [Lib.cell_of_heap hbk]; rfl
  go_wp2_with (at_builtin; refine wpList_append_own _ rfl _ _ 81 rfl B 5 i0 (.int .u8 0) 1 1 Tryd.underlying81 hi hz0 hz1 hz2 rfl (by decide) _ _ _ rfl (hown.alloc _) ⟨w1.heap.size, 0, none⟩ 1 1 [.int .u8 c] rfl rfl ?c1 ?c2 ?c3 ?c4 ?c5 ?_)
  case c1 =>
    intro j u hj
    match j, hj with
    | 0, hj => simp at hj; subst hj; simp [Addr.add]
  case c2 => intro u hu; simp at hu; subst hu; rfl
  case c3 => unfold maxLen; omega
  case c4 => omega
  case c5 => have := hb1.size; simp; omega
  intro v' w2 hown' hgrow _
  have hlt : b < w1.heap.size := by
    rcases Nat.lt_or_ge b w1.heap.size with h' | h'
    · exact h'
    · simp [Array.getElem?_eq_none h'] at hbk
  have hb2 : w2.heap[b]? = some (.cells #[.pointer (some ⟨b, 0, none⟩), v] 83 (0, 0)) := by
    rw [hgrow.block b (by simp; omega) (fun e => hne e.symm), Lib.alloc_old w1 _ b hlt]
    exact hbk
  have d0 : w2.cell? ⟨b, 0, none⟩ = some (.pointer (some ⟨b, 0, none⟩)) := by rw [Lib.cell_of_heap hb2]; rfl
  have d1 : w2.cell? ⟨b, 1, none⟩ = some v := by rw [Lib.cell_of_heap hb2]; rfl
  have f1 : w2.frozen? ⟨b, 1, none⟩ = false := Lib.frozen_of_heap hb2 1
  obtain ⟨g, cap, rfl⟩ : ∃ g cap, v' = .slice (some ⟨g, 0, none⟩) (bs.length + 1) cap := by
    rcases hown'.2 with ⟨_, h0⟩ | ⟨g, cap, cur, hv, _⟩
    · omega
    · exact ⟨g, cap, hv⟩
  go_wp2
  go_ret
  refine ⟨rfl, ?_, ?_⟩
  · exact Lib.BuilderAt.put (T := 83) (e := 5) hB hb2 (bs' := bs ++ [.int .u8 c]) (by simpa using hown') (by decide)
  · exact ((hb1.alloc (by have := hb1.size; omega) _).grown hgrow (by have := hb1.size; simp; omega) (fun k hk => (hown.lt k hk).1)).setCell (p := ⟨b, 1, none⟩) hB _
set_option maxHeartbeats 2000000 in
set_option maxRecDepth 100000 in
theorem writeString (B b : Nat) (bs : List Value) (s : ByteArray) (w : World) (h : Lib.IsBuilder 83 5 B b bs w) (hlen : bs.length + s.size ≤ 140737488355328) (hBw : B ≤ w.heap.size) :
    Calls Tryd.prog 49 #[.pointer (some ⟨b, 0, none⟩), .string s] w fun e w' => e = .returned (.tuple #[.int .i64 s.size, .nilIface]) ∧ (Lib.BuilderAt 83 5 B b (.pointer (some ⟨b, 0, none⟩)) (bs ++ Lib.strCells s) w' ∧ Below B w w') := by
  obtain ⟨i0, hi, hz0, hz1, hz2⟩ := info_parts infoByte
  go_enter Tryd.func49, Tryd.ntmps49
  go_wp2_with (go_at_call 58; refine (copyCheck B b bs _ h).mono ?_)
  rintro e w1 ⟨rfl, h1, hb1⟩
  obtain ⟨hB, v, hbk, hown, hne⟩ := h1
  have c0 : w1.cell? ⟨b, 0, none⟩ = some (.pointer (some ⟨b, 0, none⟩)) := by rw [Lib.cell_of_heap hbk]; rfl
  have c1 : w1.cell? ⟨b, 1, none⟩ = some v := by rw [Lib.cell_of_heap hbk]; rfl
  go_wp2_with (at_builtin; refine Lib.wpList_append_own_string _ rfl _ _ 81 9 rfl B 5 i0 Tryd.underlying81 Tryd.underlying9 hi hz0 hz1 hz2 _ _ _ rfl hown s rfl ?c3 ?c4 ?c5 ?_)
  case c3 => unfold maxLen; omega
  case c4 => omega
  case c5 => have := hb1.size; omega
  intro v' w2 hown' hgrow _
  have hlt : b < w1.heap.size := by
    rcases Nat.lt_or_ge b w1.heap.size with h' | h'
    · exact h'
    · simp [Array.getElem?_eq_none h'] at hbk
  have hb2 : w2.heap[b]? = some (.cells #[.pointer (some ⟨b, 0, none⟩), v] 83 (0, 0)) := by
    rw [hgrow.block b hlt (fun e => hne e.symm)]
    exact hbk
  have d0 : w2.cell? ⟨b, 0, none⟩ = some (.pointer (some ⟨b, 0, none⟩)) := by rw [Lib.cell_of_heap hb2]; rfl
  have d1 : w2.cell? ⟨b, 1, none⟩ = some v := by rw [Lib.cell_of_heap hb2]; rfl
  have f1 : w2.frozen? ⟨b, 1, none⟩ = false := Lib.frozen_of_heap hb2 1
  obtain ⟨ao, n', cap, rfl⟩ : ∃ ao n' cap, v' = .slice ao n' cap := by
    rcases hown'.2 with ⟨hv, _⟩ | ⟨g, cap, cur, hv, _⟩
    · exact ⟨_, _, _, hv⟩
    · exact ⟨_, _, _, hv⟩
  go_wp2
  go_ret2
  refine ⟨rfl, ?_, ?_⟩
  · exact Lib.BuilderAt.put (T := 83) (e := 5) hB hb2 (bs' := bs ++ Lib.strCells s) (by simpa [Lib.strCells_length] using hown') (by decide)
  · exact (hb1.grown hgrow (by have := hb1.size; omega) (fun k hk => (hown.lt k hk).1)).setCell (p := ⟨b, 1, none⟩) hB _
end Go.Proofs.YtjpihfjgomoijaaDoor.K
end
section
/- Contracts of package knot's leaf functions over this dump, in the form in which the printed texts ask for them: Num, Int, Tie, Seal, and strings.Cut; and TheG: the library's tables lie as laid. -/
namespace Go.Proofs.YtjpihfjgomoijaaDoor.K
open Go.RowKit Go.Proofs.YtjpihfjgomoijaaDoorW.PrintWords Go.Proofs.YtjpihfjgomoijaaDoorW.PrintLast
/-- What the library's own variables hold: as they were laid. -/
structure TheG (w : World) : Prop where
  tab : Lib.TabIs Tryd.prog w "internal/strconv.uint64pow10" .u64 Lib.pow10Tab
  syn : ∃ ev, w.cell? ⟨0, 0, none⟩ = some ev ∧ (ev = .nilIface ∨ ∃ te pe, ev = .iface te pe)
  rng : ∃ ev, w.cell? ⟨1, 0, none⟩ = some ev ∧ (ev = .nilIface ∨ ∃ te pe, ev = .iface te pe)
  mx : ∃ m, w.cell? ⟨3, 0, none⟩ = some (.int .i64 m)
theorem var_lt {w : World} {n : String} {cs : Array Value} {g : Nat} (hg : Tryd.prog.globalNamed n = some g) (h : w.var? Tryd.prog n = some cs) : g < w.heap.size := by
  unfold World.var? at h
  rw [hg, Option.bind_some] at h
  rcases Nat.lt_or_ge g w.heap.size with h' | h'
  · exact h'
  · rw [Array.getElem?_eq_none h'] at h; exact absurd h (by simp)
theorem g_tab : Tryd.prog.globalNamed "internal/strconv.uint64pow10" = some 2 := by kernel_rfl
theorem TheG.below {w w' : World} (h : TheG w) (hb : Below w.heap.size w w') : TheG w' := by
  obtain ⟨h1, ⟨e1, h2, h2'⟩, ⟨e2, h3, h3'⟩, m, h4⟩ := h
  exact ⟨var?_below hb g_tab (var_lt g_tab h1) h1, ⟨e1, pw_cell_below hb h2, h2'⟩, ⟨e2, pw_cell_below hb h3, h3'⟩, m, pw_cell_below hb h4⟩
theorem TheG.quiet {w w' : World} (h : TheG w) (hb : Drawn0 w w') : TheG w' := h.below hb.below
/-! ### knot.Num -/
def numB (n : Int) : ByteArray := ⟨(Lib.itoa n).toArray⟩
def knot_Num.f (a0 : Int) : Option ByteArray := if -9223372036854775808 ≤ a0 then (if a0 ≤ 9223372036854775807 then some (numB a0) else none) else none
theorem below_grow (w : World) (k : Nat) (os : Array Obj) : Below w.heap.size w (Go.Sort.grow (w.drewN k) os) := by
  have h : ∀ (W : World), Below W.heap.size W (Go.Sort.grow W os) := fun W =>
    ⟨rfl, rfl, rfl, by simp [Go.Sort.grow], fun i hi => by simp only [Go.Sort.grow]; rw [Array.getElem?_append_left hi]⟩
  exact below_then (pbN (Below.refl _ _) k) (by rw [World.heap_drewN]; exact Nat.le_refl _) (h _)
set_option maxHeartbeats 1000000 in
set_option maxRecDepth 100000 in
theorem knot_Num.calls (a0 : Int) (r : ByteArray) (w : World) (hG : TheG w) (h : knot_Num.f a0 = some r) :
    Calls Tryd.prog 40 #[.int .i64 a0] w fun e w' => e = .returned (.string r) ∧ Below w.heap.size w w' := by
  unfold knot_Num.f at h
  split at h
  · split at h
    · rename_i h0 h1
      obtain rfl := Option.some.inj h
      go_enter Tryd.func40, Tryd.ntmps40
      go_wp2_with (go_at_call 48; refine (Tryd.strconv_FormatInt_10 a0 h0 h1 _ hG.tab).mono ?_; rintro e w' ⟨rfl, k, os, rfl⟩)
      go_ret
      exact ⟨rfl, below_grow _ _ _⟩
    · exact absurd h (by simp)
  · exact absurd h (by simp)
/-! ### knot.Int -/
theorem parseUintM_le (M : Nat) : ∀ (l : List UInt8) (acc u : Nat), acc ≤ M → Lib.parseUintM M acc l = .ok u → u ≤ M
  | [], acc, u, h, e => by simp only [Lib.parseUintM] at e; injection e with e; omega
  | c :: r, acc, u, h, e => by
    simp only [Lib.parseUintM] at e
    split at e
    · split at e
      · exact absurd e (by simp)
      · split at e
        · exact absurd e (by simp)
        · exact parseUintM_le M r _ u (by omega) e
    · exact absurd e (by simp)
theorem parseIntB_bound {l : List UInt8} {v : Int} (h : Lib.parseIntB 64 l = .ok v) : -9223372036854775808 ≤ v ∧ v ≤ 9223372036854775807 := by
  cases l with
  | nil => simp [Lib.parseIntB] at h
  | cons c r =>
    simp only [Lib.parseIntB] at h
    cases hu : Lib.parseUintB 64 (if c.toNat = 43 ∨ c.toNat = 45 then r else c :: r)
    case ok u =>
      rw [hu] at h
      simp only [] at h
      split at h
      · exact absurd h (by simp)
      · split at h
        · exact absurd h (by simp)
        · injection h with h
          split at h <;> omega
    all_goals (rw [hu] at h; exact absurd h (by simp))
theorem bytes_below (w : World) (e : TypeId) (s : ByteArray) : Below w.heap.size w (Lib.bytesWorld w e s) :=
  ⟨rfl, rfl, rfl, by rw [Lib.bytesWorld_size]; omega, fun i hi => Lib.bytesWorld_at_old _ _ _ _ hi⟩
def knot_Int.f (a0 : ByteArray) : Option (Int × Int) :=
  if a0.size ≤ 281474976710656 then some (match Lib.parseIntB 64 a0.data.toList with | .ok v => if numB v = a0 then (v, 0) else (0, 10) | _ => (0, 10)) else none
set_option maxHeartbeats 1000000 in
set_option maxRecDepth 100000 in
theorem knot_Int.calls (a0 : ByteArray) (r1 : Int) (r2 : Int) (w : World) (hG : TheG w) (h : knot_Int.f a0 = some (r1, r2)) :
    Calls Tryd.prog 36 #[.string a0] w fun e w' => e = .returned (.tuple #[.int .i64 r1, .int .i64 r2]) ∧ Below w.heap.size w w' := by
  unfold knot_Int.f at h
  split at h
  case isFalse => exact absurd h (by simp)
  case isTrue hs =>
  cases hp : Lib.parseIntB 64 a0.data.toList
  case ok v =>
    rw [hp] at h
    have hb := parseIntB_bound hp
    obtain ⟨h0, h1⟩ := hb
    by_cases hn : numB v = a0
    · simp only [hn, if_true, Option.some.injEq, Prod.mk.injEq] at h
      obtain ⟨rfl, rfl⟩ := h
      have hq : ((numB v).toList == a0.toList) = true := by rw [hn]; simp
      have hN : knot_Num.f v = some (numB v) := by unfold knot_Num.f; rw [if_pos h0, if_pos h1]
      have HN := Lib.hid hN
      have HP := Lib.hid hp
      clear hN hp hn h0 h1
      go_enter Tryd.func36, Tryd.ntmps36
      go_wp2_with (first | (go_at_call 46; refine (Tryd.strconv_ParseInt_10_at64_ok a0 (by omega) v HP.out _).mono ?_; rintro e w1 ⟨rfl, hw1⟩; have hb1 : Below w.heap.size w w1 := (by rcases hw1 with rfl | ⟨t, rfl⟩; exact Below.refl _ _; exact bytes_below _ _ _); clear hw1) | (go_at_call 40; refine (knot_Num.calls v (numB v) _ (hG.below hb1) HN.out).mono ?_; rintro e w2 ⟨rfl, hb2⟩))
      go_ret2
      exact ⟨rfl, pbT hb1 hb2⟩
    · simp only [hn, if_false, Option.some.injEq, Prod.mk.injEq] at h
      obtain ⟨rfl, rfl⟩ := h
      have hq : ((numB v).toList == a0.toList) = false := by
        rw [beq_eq_false_iff_ne]; intro e; exact hn (ByteArray.ext (Array.toList_inj.1 (by rw [← Lib.toList_data, ← Lib.toList_data]; exact e)))
      have hN : knot_Num.f v = some (numB v) := by unfold knot_Num.f; rw [if_pos h0, if_pos h1]
      have HN := Lib.hid hN
      have HP := Lib.hid hp
      clear hN hp hn h0 h1
      go_enter Tryd.func36, Tryd.ntmps36
      go_wp2_with (first | (go_at_call 46; refine (Tryd.strconv_ParseInt_10_at64_ok a0 (by omega) v HP.out _).mono ?_; rintro e w1 ⟨rfl, hw1⟩; have hb1 : Below w.heap.size w w1 := (by rcases hw1 with rfl | ⟨t, rfl⟩; exact Below.refl _ _; exact bytes_below _ _ _); clear hw1) | (go_at_call 40; refine (knot_Num.calls v (numB v) _ (hG.below hb1) HN.out).mono ?_; rintro e w2 ⟨rfl, hb2⟩))
      go_ret2
      exact ⟨rfl, pbT hb1 hb2⟩
  case range =>
    rw [hp] at h
    simp only [Option.some.injEq, Prod.mk.injEq] at h
    obtain ⟨rfl, rfl⟩ := h
    obtain ⟨ev, hv, hev⟩ := hG.rng
    have HE := Lib.hid hev
    clear hev
    have HP := Lib.hid hp
    have HV := Lib.hid hv
    clear hp hv
    go_enter Tryd.func36, Tryd.ntmps36
    go_wp2_with (first | (go_at_call 46; refine (Tryd.strconv_ParseInt_10_at64_range a0 hs HP.out ev _ HV.out HE.out).mono ?_; rintro e w1 ⟨N, rfl, _, _, hb1⟩))
    go_ret2
    exact ⟨rfl, hb1⟩
  all_goals
    rw [hp] at h
    simp only [Option.some.injEq, Prod.mk.injEq] at h
    obtain ⟨rfl, rfl⟩ := h
    obtain ⟨ev, hv, hev⟩ := hG.syn
    have HE := Lib.hid hev
    clear hev
    have HP := Lib.hid hp
    have HV := Lib.hid hv
    clear hp hv
    go_enter Tryd.func36, Tryd.ntmps36
    go_wp2_with (first | (go_at_call 46; refine (Any.strconv_ParseInt_10_at64_syntax Tryd.laysC174 a0 hs HP.out ev _ HV.out HE.out).mono ?_; rintro e w1 ⟨N, rfl, _, _, hb1⟩))
    go_ret2
    exact ⟨rfl, hb1⟩
/-! ### strings.Cut -/
def strings_Cut.f (a0 a1 : ByteArray) : Option (ByteArray × ByteArray × Bool) :=
  if a0.size < 4294967281 then some (⟨(Lib.cut a0.data.toList a1.data.toList).1.toArray⟩, ⟨(Lib.cut a0.data.toList a1.data.toList).2.1.toArray⟩, (Lib.cut a0.data.toList a1.data.toList).2.2) else none
theorem strings_Cut.calls (a0 a1 : ByteArray) (r1 r2 : ByteArray) (r3 : Bool) (w : World) (hG : TheG w) (h : strings_Cut.f a0 a1 = some (r1, r2, r3)) :
    Calls Tryd.prog 54 #[.string a0, .string a1] w fun e w' => e = .returned (.tuple #[.string r1, .string r2, .bool r3]) ∧ Drawn0 w w' := by
  unfold strings_Cut.f at h
  split at h
  case isFalse => exact absurd h (by simp)
  case isTrue hs =>
  simp only [Option.some.injEq, Prod.mk.injEq] at h
  obtain ⟨rfl, rfl, rfl⟩ := h
  obtain ⟨m, hm⟩ := hG.mx
  exact (Tryd.strings_Cut a0 a1 m w hs hm).mono fun e w' ⟨h1, h2⟩ => ⟨h1, ⟨h2⟩⟩
/-! ### knot.Tie -/
theorem numB_size (n : Int) : (numB n).size = (Lib.itoa n).length := by simp [numB, ByteArray.size]
def strandL (s : ByteArray) : List UInt8 := Lib.itoa s.size ++ [58] ++ s.data.toList ++ [44]
def tieL (l : List ByteArray) : List UInt8 := (l.map strandL).flatten
def knot_Tie.f (l0 : List ByteArray) : Option ByteArray := if (tieL l0).length ≤ 140737488355328 then some ⟨(tieL l0).toArray⟩ else none
theorem tieL_snoc (l : List ByteArray) (k : Nat) (h : k < l.length) : tieL (l.take (k + 1)) = tieL (l.take k) ++ strandL l[k] := by
  unfold tieL
  rw [List.take_succ_eq_append_getElem h, List.map_append, List.flatten_append]
  simp
theorem tieL_le (l : List ByteArray) (k : Nat) : (tieL (l.take k)).length ≤ (tieL l).length := by
  unfold tieL
  conv => rhs; rw [← List.take_append_drop k l]
  rw [List.map_append, List.flatten_append, List.length_append]
  omega
theorem byteCells_append (a b : List UInt8) : Lib.byteCells (a ++ b) = Lib.byteCells a ++ Lib.byteCells b := by simp [Lib.byteCells]
theorem byteCells_length (a : List UInt8) : (Lib.byteCells a).length = a.length := by simp [Lib.byteCells]
theorem strCells_eq (s : ByteArray) : Lib.strCells s = Lib.byteCells s.data.toList := rfl
theorem isBuilder_step {T e : TypeId} {B b : Nat} {bs : List Value} {w w' : World} (h : Lib.IsBuilder T e B b bs w) (hb : Below w.heap.size w w') : Lib.IsBuilder T e B b bs w' := by
  have aux : ∀ p, Lib.BuilderAt T e B b p bs w → Lib.BuilderAt T e B b p bs w' := by
    intro p hp
    have hlt := hp.lt
    obtain ⟨h1, v, h2, h3, h4⟩ := hp
    exact ⟨h1, v, (hb.block b hlt).trans h2, pw_own_below h3 hb, h4⟩
  rcases h with h | h
  · exact .inl (aux _ h)
  · exact .inr (aux _ h)
theorem isBuilder_used {T e : TypeId} {B b : Nat} {bs : List Value} {w : World} (h : Lib.BuilderAt T e B b (.pointer (some ⟨b, 0, none⟩)) bs w) : Lib.IsBuilder T e B b bs w := .inr h
theorem isBuilder_lt {T e : TypeId} {B b : Nat} {bs : List Value} {w : World} (h : Lib.IsBuilder T e B b bs w) : b < w.heap.size := by
  rcases h with h | h <;> exact h.lt
set_option maxHeartbeats 2000000 in
set_option maxRecDepth 100000 in
theorem knot_Tie.calls (A0 : Option Addr) (c0 : Nat) (l0 : List ByteArray) (r : ByteArray) (w : World) (hG : TheG w) (hr0 : Kd.C Kd.string w A0 l0.length l0) (hc0 : l0.length ≤ c0) (h : knot_Tie.f l0 = some r) :
    Calls Tryd.prog 41 #[.slice A0 l0.length c0] w fun e w' => e = .returned (.string r) ∧ Below w.heap.size w w' := by
  unfold knot_Tie.f at h
  split at h
  case isFalse => exact absurd h (by simp)
  case isTrue hs =>
  obtain rfl := Option.some.inj h
  have hmax : l0.length ≤ 9223372036854775807 := hr0.2.1
  have HC := Lib.hid hr0
  have HS := Lib.hid hs
  clear hs hr0
  go_enter Tryd.func41, Tryd.ntmps41
  go_wp2
  go_loopw [8] (fun i wr => ∃ k : Nat, k ≤ l0.length ∧ i = .int .i64 k ∧ Hid (Lib.IsBuilder 83 5 w.heap.size w.heap.size (Lib.byteCells (tieL (l0.take k))) wr) ∧ Hid (Below w.heap.size w wr) ∧ Hid (w.heap.size < wr.heap.size)) (fun i _ => l0.length - (intOf i).toNat)
  case atStart => exact ⟨0, Nat.zero_le _, rfl, Lib.hid (Or.inl ⟨Nat.le_refl _, .slice none 0 0, Array.getElem?_push_size, own_nil _ _ _ _, by exact fun h => nomatch h⟩), Lib.hid (pbA (Below.refl _ _) _), Lib.hid (by simp)⟩
  case round =>
    obtain ⟨k, hk, rfl, HB, HW, HL⟩ := hrel
    by_cases hlt : k < l0.length
    · obtain ⟨ad, ead, hcell⟩ := Kd.at_string (Kd.C_below HC.out HW.out) (k : Int) (by omega) (by omega)
      subst ead
      have hrd : rdOf ByteArray.empty l0 (k : Int) = l0[k] := by simp [rdOf, hlt]
      rw [hrd] at hcell
      simp only [Int.toNat_natCast] at hcell
      have hle := tieL_le l0 (k + 1)
      have hsn := tieL_snoc l0 k hlt
      have hln : (tieL (l0.take k)).length + (Lib.itoa (l0[k].size : Int)).length + 1 + l0[k].size + 1 ≤ 140737488355328 := by
        have := HS.out
        rw [hsn] at hle
        simp only [strandL, List.length_append, List.length_cons, List.length_nil, ← Lib.size_eq] at hle
        omega
      have hN : knot_Num.f (l0[k].size : Int) = some (numB (l0[k].size : Int)) := by unfold knot_Num.f; rw [if_pos (by omega), if_pos (by omega)]
      have HN := Lib.hid hN
      have HLN := Lib.hid hln
      have HSN := Lib.hid hsn
      have HGr := Lib.hid (hG.below HW.out)
      have hz := numB_size (l0[k].size : Int)
      have HC1 := Lib.hid (show (Lib.byteCells (tieL (l0.take k))).length + (numB (l0[k].size : Int)).size ≤ 140737488355328 by simp only [byteCells_length, hz]; omega)
      have HC2 := Lib.hid (show (Lib.byteCells (tieL (l0.take k)) ++ Lib.strCells (numB (l0[k].size : Int))).length + 1 ≤ 140737488355328 by simp only [byteCells_length, strCells_eq, ← Lib.size_eq, List.length_append, hz]; omega)
      have HC3 := Lib.hid (show (Lib.byteCells (tieL (l0.take k)) ++ Lib.strCells (numB (l0[k].size : Int)) ++ [Value.int .u8 58]).length + l0[k].size ≤ 140737488355328 by simp only [byteCells_length, strCells_eq, ← Lib.size_eq, List.length_append, List.length_cons, List.length_nil, hz]; omega)
      have HC4 := Lib.hid (show (Lib.byteCells (tieL (l0.take k)) ++ Lib.strCells (numB (l0[k].size : Int)) ++ [Value.int .u8 58] ++ Lib.strCells l0[k]).length + 1 ≤ 140737488355328 by simp only [byteCells_length, strCells_eq, ← Lib.size_eq, List.length_append, List.length_cons, List.length_nil, hz]; omega)
      clear hN hln hsn hle hrd hz
      go_wp2_with (first | (go_at_call 40; refine (knot_Num.calls _ _ _ HGr.out HN.out).mono ?_; rintro e w1 ⟨rfl, hb1⟩; have HB1 := Lib.hid (isBuilder_step HB.out hb1); have HW1 := Lib.hid (pbT HW.out hb1); clear hb1) | fail)
      go_wp2_with (first | (go_at_call 49; refine (writeString _ _ _ _ _ HB1.out HC1.out HW1.out.size).mono ?_; rintro e w2 ⟨rfl, hB, hb⟩; have HB2 := Lib.hid (isBuilder_used hB); have HW2 := Lib.hid (HW1.out.trans hb); clear hb hB) | fail)
      go_wp2_with (first | (go_at_call 50; refine (writeByte _ _ _ _ _ HB2.out HC2.out HW2.out.size).mono ?_; rintro e w3 ⟨rfl, hB, hb⟩; have HB3 := Lib.hid (isBuilder_used hB); have HW3 := Lib.hid (HW2.out.trans hb); clear hb hB) | fail)
      go_wp2_with (first | (go_at_call 49; refine (writeString _ _ _ _ _ HB3.out HC3.out HW3.out.size).mono ?_; rintro e w4 ⟨rfl, hB, hb⟩; have HB4 := Lib.hid (isBuilder_used hB); have HW4 := Lib.hid (HW3.out.trans hb); clear hb hB) | fail)
      go_wp2_with (first | (go_at_call 50; refine (writeByte _ _ _ _ _ HB4.out HC4.out HW4.out.size).mono ?_; rintro e w5 ⟨rfl, hB, hb⟩; have HB5 := Lib.hid (isBuilder_used hB); have HW5 := Lib.hid (HW4.out.trans hb); clear hb hB) | fail)
      go_roundw
      case rel =>
        refine ⟨k + 1, by omega, by go_num, ?_, HW5, Lib.hid (isBuilder_lt HB5.out)⟩
        have h := HB5.out
        rw [HSN.out]
        refine Lib.hid ?_
        simpa [byteCells_append, strandL, numB, strCells_eq, Lib.byteCells] using h
      case measure => simp [intOf]; omega
    · obtain rfl : k = l0.length := by omega
      rw [List.take_length] at HB
      go_wp2_with (first | (go_at_call 51; refine (Tryd.Builder_String_any _ _ _ _ HB.out HW.out.size).mono ?_; rintro e w1 ⟨rfl, hb1⟩; have HW1 := Lib.hid (HW.out.trans hb1); clear hb1) | fail)
      go_ret
      exact ⟨rfl, HW1.out⟩
end Go.Proofs.YtjpihfjgomoijaaDoor.K
end
section
/- What the rows of this seat use: that the library's variables lie as the walks ask, out of what the row lists and of the world's shape; a world for the witness; arguments laid open. -/
namespace Go.Proofs.YtjpihfjgomoijaaDoor.K
open Go.RowKit Go.Proofs.YtjpihfjgomoijaaDoorW.PrintWords
theorem own : ownKnob Tryd.prog.godebug = none := by kernel_rfl
theorem laidOut : laidOutB Tryd.prog = true := by kernel_rfl
def laidHere : List (String × DataW Unit) := [("math/bits.deBruijn32tab", Rows.laid_math_bits_deBruijn32tab), ("math/bits.deBruijn64tab", Rows.laid_math_bits_deBruijn64tab), ("internal/strconv.uint64pow10", Rows.laid_internal_strconv_uint64pow10), ("strconv.ErrRange", Rows.laid_strconv_ErrRange), ("strconv.ErrSyntax", Rows.laid_strconv_ErrSyntax)]
theorem laid_iface {P : Program} {n nm : String} {d : DataW Unit} {r : List (String × DataW Unit)} {W : World} {g : Nat} {ti : TypeId} {ms : Array (String × TypeId)}
    (h : laidMet P ((n, .iface nm d) :: r) W) (hg : P.globalNamed n = some g) (ht : (P.globals[g]?).map (·.type) = some ti) (hi : P.underlying ti = some (.interface ms)) :
    ∃ ev, W.cell? ⟨g, 0, none⟩ = some ev ∧ (ev = .nilIface ∨ ∃ te pe, ev = .iface te pe) := by
  obtain ⟨ps, ⟨g0, t0, cs0, f0, p0, q0, hg0, ht0, hv0, hd0, _, e0⟩, _, hrows⟩ := h
  obtain rfl := Option.some.inj (hg.symm.trans hg0)
  obtain rfl := Option.some.inj (ht.symm.trans ht0)
  have hc := World.var?_cell hg0 hv0 0
  cases f0 with
  | zero => simp [DataW.trod] at hd0
  | succ f =>
    obtain ⟨l⟩ := cs0
    cases l with
    | nil => simp [DataW.trod, hi] at hd0
    | cons v l =>
      cases l with
      | cons _ _ => simp [DataW.trod, hi] at hd0
      | nil =>
        have hc' : W.cell? ⟨g, 0, none⟩ = some v := by rw [hc]; rfl
        refine ⟨v, hc', ?_⟩
        cases v <;> first | exact .inl rfl | exact .inr ⟨_, _, rfl⟩ | (simp [DataW.trod, hi] at hd0)
theorem gType : (Tryd.prog.globals[2]?).map (·.type) = some 117 := by kernel_rfl
theorem cellsTab : Tryd.prog.cellsOf 117 = 20 := by kernel_rfl
theorem cellsU64 : Tryd.prog.cellsOf 78 = 1 := by kernel_rfl
theorem theG_of {W : World} (hL : laidMetH Tryd.prog laidHere W) (hsh : W.ShapedOpen Tryd.prog) : TheG W := by
  have h1 : laidMetH Tryd.prog [("internal/strconv.uint64pow10", Rows.laid_internal_strconv_uint64pow10)] W := by
    have := hL.filter (fun x => x.1 == "internal/strconv.uint64pow10")
    rw [show laidHere.filter (fun x => x.1 == "internal/strconv.uint64pow10") = [("internal/strconv.uint64pow10", Rows.laid_internal_strconv_uint64pow10)] from by rfl] at this
    exact this
  have h2 : laidMet Tryd.prog [("internal/strconv.uint64pow10", Lib.tabData .u64 Lib.pow10Tab)] W := by
    rw [MakeChecks.laidMetH_plain _ _ _ (by kernel_rfl)] at h1
    exact h1
  refine ⟨Lib.tabIs_of_head (rest := []) g_tab gType Tryd.underlying117 Tryd.underlying78 cellsU64 cellsTab h2, ?_, ?_, ?_⟩
  · have h1 := hL.filter (fun x => x.1 == "strconv.ErrSyntax")
    rw [show laidHere.filter (fun x => x.1 == "strconv.ErrSyntax") = [("strconv.ErrSyntax", Rows.laid_strconv_ErrSyntax)] from by rfl, MakeChecks.laidMetH_plain _ _ _ (by kernel_rfl)] at h1
    exact laid_iface (g := 0) (ti := 73) h1 (by kernel_rfl) (by kernel_rfl) Tryd.underlying73
  · have h1 := hL.filter (fun x => x.1 == "strconv.ErrRange")
    rw [show laidHere.filter (fun x => x.1 == "strconv.ErrRange") = [("strconv.ErrRange", Rows.laid_strconv_ErrRange)] from by rfl, MakeChecks.laidMetH_plain _ _ _ (by kernel_rfl)] at h1
    exact laid_iface (g := 1) (ti := 73) h1 (by kernel_rfl) (by kernel_rfl) Tryd.underlying73
  · exact cell_of_shapedOpen_int (zero := #[.int .i64 0]) (t := 3) hsh (of_decide_eq_true (by kernel_rfl)) (by kernel_rfl) rfl (by kernel_rfl) (by kernel_rfl) Tryd.underlying3
/-- The heap that the variables' own initialisers leave: a start that fits. -/
theorem door_met (os : Os) (args : Array Value) : laidMetH Tryd.prog laidHere ((World.doorLaid Tryd.prog 62 os).forCall (fun _ _ => 0) ⟨#[], args, []⟩).memory :=
  laidMetH_of_parts3 (fuel := 8) (laidMet_of_run' 8 (by kernel_rfl) (by kernel_rfl)) (by kernel_rfl) (by kernel_rfl)
end Go.Proofs.YtjpihfjgomoijaaDoor.K
end
section
/- Arguments laid open: what can be read as data of a type is told by the printed texts' kinds, and its sizes are bounded. Of no program. -/
namespace Go.Proofs.YtjpihfjgomoijaaDoor.O
open Go Go.RowKit Go.Proofs.YtjpihfjgomoijaaDoorW.PrintWords
/-- What is read as data of type t has cells of kind d, and is well formed and within the reach (ok). -/
def Opn {α : Type} (P : Program) (t : TypeId) (d : Kd α) (ok : α → Prop) : Prop :=
  ∀ (H : Type) (enc : TypeId × Value → H) (w : World) (base : Nat) (sp : Nat → Bool) (held : Bool) (fuel : Nat) (cs : List Value) (y : DataW H) (ps : List MemPlace),
    DataW.trod enc P w base sp held fuel t cs = some (y, ps) → (∀ n ∈ DataW.weights P t y, n ≤ reachBytes) → ∃ x, d.K w x cs ∧ ok x
variable {P : Program} {t : TypeId}
theorem Opn.bool (hu : P.underlying t = some .bool) : Opn P t Kd.bool (fun _ => True) := by
  intro H enc w base sp held fuel cs y ps h _
  cases fuel with
  | zero => simp [DataW.trod] at h
  | succ f =>
    unfold DataW.trod at h
    rw [hu] at h
    cases cs with
    | nil => simp at h
    | cons v l =>
      cases l with
      | cons _ _ => cases v <;> simp at h
      | nil => cases v <;> first | exact ⟨_, rfl, trivial⟩ | (simp at h)
theorem Opn.int {k : IntKind} (hu : P.underlying t = some (.int k)) : Opn P t (Kd.int k) (fun n => (Lit.int k n).wf = true) := by
  intro H enc w base sp held fuel cs y ps h _
  cases fuel with
  | zero => simp [DataW.trod] at h
  | succ f =>
    unfold DataW.trod at h
    rw [hu] at h
    cases cs with
    | nil => simp at h
    | cons v l =>
      cases l with
      | cons _ _ => cases v <;> simp at h
      | nil =>
        cases v
        case int k' n =>
          simp only at h
          split at h
          · rename_i hc
            obtain ⟨rfl, hw⟩ := hc
            exact ⟨n, rfl, hw⟩
          · exact absurd h (by simp)
        all_goals simp at h
theorem Opn.string (hu : P.underlying t = some .string) : Opn P t Kd.string (fun s => s.size ≤ reachBytes) := by
  intro H enc w base sp held fuel cs y ps h hw
  cases fuel with
  | zero => simp [DataW.trod] at h
  | succ f =>
    unfold DataW.trod at h
    rw [hu] at h
    cases cs with
    | nil => simp at h
    | cons v l =>
      cases l with
      | cons _ _ => cases v <;> simp at h
      | nil =>
        cases v
        case string s =>
          simp only at h
          split at h
          · simp only [Option.some.injEq, Prod.mk.injEq] at h
            obtain ⟨rfl, _⟩ := h
            refine ⟨s, rfl, ?_⟩
            have := hw s.data.toList.length (by simp [DataW.weights])
            rw [← Lib.size_eq] at this
            exact this
          · exact absurd h (by simp)
        all_goals simp at h
theorem weightsAll_mem {H : Type} {P : Program} {e : TypeId} : ∀ {l : List (DataW H)} {d : DataW H}, d ∈ l → ∀ n ∈ DataW.weights P e d, n ∈ DataW.weightsAll P e l
  | a :: l, d, hd, n, hn => by
    simp only [DataW.weightsAll, List.mem_append]
    rcases List.mem_cons.1 hd with rfl | hd
    · exact .inl hn
    · exact .inr (weightsAll_mem hd n hn)
theorem mapM_some {α β : Type} {f : α → Option β} : ∀ {l : List α} {r : List β}, l.mapM f = some r → r.length = l.length ∧ ∀ i (hi : i < l.length), ∃ b, r[i]? = some b ∧ f l[i] = some b
  | [], r, h => by simp at h; subst h; exact ⟨rfl, fun i hi => by simp at hi⟩
  | a :: l, r, h => by
    simp only [List.mapM_cons, Option.pure_def, Option.bind_eq_bind, Option.bind_eq_some_iff, Option.some.injEq] at h
    obtain ⟨b, hb, r', hr, rfl⟩ := h
    obtain ⟨h1, h2⟩ := mapM_some hr
    refine ⟨by simp [h1], fun i hi => ?_⟩
    cases i with
    | zero => exact ⟨b, rfl, hb⟩
    | succ i => exact h2 i (by simpa using hi)
theorem choose_list {α : Type} (n : Nat) (Q : Nat → α → Prop) (h : ∀ i, i < n → ∃ x, Q i x) : ∃ xs : List α, xs.length = n ∧ ∀ i x, xs[i]? = some x → Q i x := by
  induction n with
  | zero => exact ⟨[], rfl, fun i x hx => by simp at hx⟩
  | succ n ih =>
    obtain ⟨xs, h1, h2⟩ := ih (fun i hi => h i (by omega))
    obtain ⟨x, hx⟩ := h n (by omega)
    refine ⟨xs ++ [x], by simp [h1], fun i y hy => ?_⟩
    rcases Nat.lt_or_ge i n with hi | hi
    · rw [List.getElem?_append_left (by omega)] at hy; exact h2 i y hy
    · rw [List.getElem?_append_right (by omega)] at hy
      have : i - xs.length = 0 := by
        rcases Nat.eq_zero_or_pos (i - xs.length) with h0 | h0
        · exact h0
        · rw [List.getElem?_eq_none (by simp; omega)] at hy; simp at hy
      rw [this] at hy
      simp at hy
      subst hy
      rw [show i = n by omega]; exact hx
theorem add_add_ (a : Addr) (i j : Nat) : (a.add i).add j = a.add (i + j) := by
  unfold Addr.add
  by_cases hi : i = 0 <;> by_cases hj : j = 0 <;> simp [hi, hj, Nat.add_assoc]
theorem Opn.slice {α : Type} {e : TypeId} {d : Kd α} {ok : α → Prop} {B : Nat} (hu : P.underlying t = some (.slice e)) (hc : P.cellsOf e = d.sz) (hB : P.bytesOf e = B) (ho : Opn P e d ok) :
    Opn P t (Kd.slice e d) (fun xs => xs.length * B ≤ reachBytes ∧ xs.length ≤ maxLen ∧ ∀ x ∈ xs, ok x) := by
  intro H enc w base sp held fuel cs y ps h hw
  cases fuel with
  | zero => simp [DataW.trod] at h
  | succ f =>
    unfold DataW.trod at h
    rw [hu] at h
    cases cs with
    | nil => simp at h
    | cons v l =>
      cases l with
      | cons _ _ => cases v <;> simp at h
      | nil =>
        cases v
        case slice A n c =>
          cases A with
          | none =>
            have hz : n = 0 ∧ c = 0 := by
              cases n <;> cases c <;> simp at h ⊢
            obtain ⟨rfl, rfl⟩ := hz
            exact ⟨[], ⟨none, 0, rfl, Nat.le_refl _, Kd.C_nil _ _⟩, by simp [reachBytes], by simp, by simp⟩
          | some a =>
            simp only at h
            split at h
            · rename_i hcnd
              obtain ⟨_, hle, hmx⟩ := hcnd
              rw [Option.bind_eq_some_iff] at h
              obtain ⟨elems, he, h⟩ := h
              rw [Option.map_eq_some_iff] at h
              obtain ⟨rest, hr, h⟩ := h
              simp only [Prod.mk.injEq] at h
              obtain ⟨rfl, _⟩ := h
              obtain ⟨hl, hi⟩ := mapM_some he
              rw [List.length_range] at hl
              have hwt : ∀ (i : Nat) (b : DataW H × List MemPlace), elems[i]? = some b → ∀ m ∈ DataW.weights P e b.1, m ≤ reachBytes := by
                intro i b hb m hm
                refine hw m ?_
                simp only [DataW.weights, hu, List.mem_cons, List.mem_append]
                exact .inr (.inl (weightsAll_mem (List.mem_map.2 ⟨b, List.mem_of_getElem? hb, rfl⟩) m hm))
              obtain ⟨xs, hxl, hxs⟩ := choose_list n (fun i x => (∃ cs, (w.cells? base (a.add (i * P.cellsOf e)) (P.cellsOf e)) = some cs ∧ d.K w x cs) ∧ ok x) (by
                intro i hin
                obtain ⟨b, hb, hf⟩ := hi i (by rw [List.length_range]; exact hin)
                rw [List.getElem_range, Option.bind_eq_some_iff] at hf
                obtain ⟨cs, h1, h2⟩ := hf
                obtain ⟨x, hx, hok⟩ := ho H enc w base sp held f cs b.1 b.2 h2 (hwt i b hb)
                exact ⟨x, ⟨cs, h1, hx⟩, hok⟩)
              subst hxl
              refine ⟨xs, ⟨some a, c, rfl, hle, rfl, ?_, ?_⟩, ?_, ?_, ?_⟩
              · unfold maxLen at hmx; omega
              · intro hpos
                refine ⟨a, rfl, fun j p hp => ?_⟩
                obtain ⟨⟨cs, h1, h2⟩, _⟩ := hxs j p hp
                refine ⟨cs, d.K_len h2, h2, fun i u hu2 => ?_⟩
                rw [hc] at h1
                obtain ⟨_, _, hcell⟩ := World.cells?_some h1
                have hlt := (List.getElem?_eq_some_iff.1 hu2).1
                rw [d.K_len h2] at hlt
                rw [← add_add_, hcell i hlt]
                exact hu2
              · have := hw ((elems.length + rest.length) * P.bytesOf e) (by simp [DataW.weights, hu])
                rw [hB, hl] at this
                exact Nat.le_trans (Nat.mul_le_mul_right _ (by omega)) this
              · omega
              · intro x hx
                obtain ⟨i, hi2⟩ := List.getElem?_of_mem hx
                exact (hxs i x hi2).2
            · exact absurd h (by simp)
        all_goals simp at h
/-! ### structs -/
def OpnF {α : Type} (P : Program) (d : Kd α) (ok : α → Prop) (fs : List Field) (off : Nat) : Prop :=
  ∀ (H : Type) (enc : TypeId × Value → H) (w : World) (base : Nat) (sp : Nat → Bool) (held : Bool) (fuel : Nat) (cs : List Value) (ys : List (DataW H × List MemPlace)),
    (fs.mapM fun f => DataW.trod enc P w base sp held fuel f.type ((cs.drop f.offset).take (P.cellsOf f.type))) = some ys → (∀ n ∈ DataW.weightsEach P (fs.map (·.type)) (ys.map (·.1)), n ≤ reachBytes) → ∃ x, d.K w x ((cs.drop off).take d.sz) ∧ ok x
theorem OpnF.one {α : Type} {d : Kd α} {ok : α → Prop} {f : Field} {off : Nat} (ho : f.offset = off) (hs : P.cellsOf f.type = d.sz) (h : Opn P f.type d ok) : OpnF P d ok [f] off := by
  intro H enc w base sp held fuel cs ys hm hw
  subst ho
  cases hy : DataW.trod enc P w base sp held fuel f.type ((cs.drop f.offset).take (P.cellsOf f.type)) with
  | none => simp [hy] at hm
  | some y =>
    simp [hy] at hm
    subst hm
    rw [hs] at hy
    exact h H enc w base sp held fuel _ y.1 y.2 hy (fun n hn => hw n (by simp [DataW.weightsEach]; exact hn))
theorem OpnF.cons {α β : Type} {d : Kd α} {d2 : Kd β} {ok : α → Prop} {ok2 : β → Prop} {f : Field} {fs : List Field} {off : Nat} (ho : f.offset = off) (hs : P.cellsOf f.type = d.sz) (h : Opn P f.type d ok) (h2 : OpnF P d2 ok2 fs (off + d.sz)) :
    OpnF P (Kd.pair d d2) (fun x => ok x.1 ∧ ok2 x.2) (f :: fs) off := by
  intro H enc w base sp held fuel cs ys hm hw
  subst ho
  cases hy : DataW.trod enc P w base sp held fuel f.type ((cs.drop f.offset).take (P.cellsOf f.type)) with
  | none => simp [hy] at hm
  | some y =>
    cases hz : (fs.mapM fun f => DataW.trod enc P w base sp held fuel f.type ((cs.drop f.offset).take (P.cellsOf f.type))) with
    | none => simp [hy, hz] at hm
    | some zs =>
      simp [hy, hz] at hm
      subst hm
      rw [hs] at hy
      obtain ⟨x, hx, hok⟩ := h H enc w base sp held fuel _ y.1 y.2 hy (fun n hn => hw n (by simp [DataW.weightsEach]; exact .inl hn))
      obtain ⟨x2, hx2, hok2⟩ := h2 H enc w base sp held fuel cs zs hz (fun n hn => hw n (by simp [DataW.weightsEach]; exact .inr (by simpa using hn)))
      refine ⟨(x, x2), ⟨_, _, ?_, hx, hx2⟩, hok, hok2⟩
      show (cs.drop f.offset).take (d.sz + d2.sz) = _
      rw [List.take_add, List.drop_drop]
theorem Opn.struct {α : Type} {d : Kd α} {ok : α → Prop} {fs : Array Field} (hu : P.underlying t = some (.struct fs)) (hs : P.cellsOf t = d.sz) (h : OpnF P d ok fs.toList 0) : Opn P t d ok := by
  intro H enc w base sp held fuel cs y ps hy hw
  cases fuel with
  | zero => simp [DataW.trod] at hy
  | succ f =>
    unfold DataW.trod at hy
    rw [hu] at hy
    simp only at hy
    split at hy
    · rename_i hl
      rw [Option.map_eq_some_iff] at hy
      obtain ⟨ys, hm, he⟩ := hy
      simp only [Prod.mk.injEq] at he
      obtain ⟨rfl, _⟩ := he
      obtain ⟨x, hx, hok⟩ := h H enc w base sp held f cs ys hm (fun n hn => hw n (by simp only [DataW.weights, hu]; exact hn))
      rw [List.drop_zero, List.take_of_length_le (by omega)] at hx
      exact ⟨x, hx, hok⟩
    · cases hy
theorem Opn.iso {α β : Type} {d : Kd α} {ok : α → Prop} {f : β → α} (g : α → β) (hg : ∀ x, f (g x) = x) (h : Opn P t d ok) : Opn P t (Kd.iso d f) (fun x => ok (f x)) := by
  intro H enc w base sp held fuel cs y ps hy hw
  obtain ⟨x, hx, hok⟩ := h H enc w base sp held fuel cs y ps hy hw
  exact ⟨g x, by show d.K w (f (g x)) cs; rw [hg]; exact hx, by simp only; rw [hg]; exact hok⟩
theorem Opn.imp {α : Type} {d : Kd α} {ok ok2 : α → Prop} (h : Opn P t d ok) (hi : ∀ x, ok x → ok2 x) : Opn P t d ok2 := by
  intro H enc w base sp held fuel cs y ps hy hw
  obtain ⟨x, hx, hok⟩ := h H enc w base sp held fuel cs y ps hy hw
  exact ⟨x, hx, hi x hok⟩
end Go.Proofs.YtjpihfjgomoijaaDoor.O
end
section
/- Plain facts on decimal numerals and knots: no program in sight. -/
namespace Go.Proofs.YtjpihfjgomoijaaDoor.A
open Go
/-- Bytes out of a list. -/
def B (l : List UInt8) : ByteArray := ⟨l.toArray⟩
theorem B_data (l : List UInt8) : (B l).data.toList = l := by simp [B]
theorem B_toList (l : List UInt8) : (B l).toList = l := by rw [Lib.toList_data, B_data]
theorem B_of (s : ByteArray) : B s.data.toList = s := by simp [B]
theorem B_size (l : List UInt8) : (B l).size = l.length := by simp [B, ByteArray.size]
theorem B_inj {a b : List UInt8} (h : B a = B b) : a = b := by rw [← B_data a, h, B_data]
theorem ext_data {a b : ByteArray} (h : a.data.toList = b.data.toList) : a = b := by rw [← B_of a, h, B_of]
theorem B_append (a b : List UInt8) : B a ++ B b = B (a ++ b) := ext_data (by rw [ByteArray.data_append, Array.toList_append, B_data, B_data, B_data])
theorem data_append (a b : ByteArray) : (a ++ b).data.toList = a.data.toList ++ b.data.toList := by rw [ByteArray.data_append, Array.toList_append]
theorem B_extract (l : List UInt8) (a b : Nat) : (B l).extract a b = B ((l.drop a).take (b - a)) := ext_data (by rw [Lib.extract_data, B_data, B_data])
/-! ### digits -/
def isD (c : UInt8) : Prop := 48 ≤ c.toNat ∧ c.toNat ≤ 57
def dval (a : Nat) (l : List UInt8) : Nat := l.foldl (fun a c => 10 * a + (c.toNat - 48)) a
theorem dval_snoc (a : Nat) (l : List UInt8) (c : UInt8) : dval a (l ++ [c]) = 10 * dval a l + (c.toNat - 48) := by simp [dval, List.foldl_append]
theorem dval_mono (l : List UInt8) : ∀ a, a ≤ dval a l := by
  induction l with
  | nil => intro a; exact Nat.le_refl _
  | cons c l ih => intro a; exact Nat.le_trans (by omega) (ih (10 * a + (c.toNat - 48)))
theorem ofNat_toNat {u : Nat} (h : u < 10) : (UInt8.ofNat (48 + u)).toNat = 48 + u := by
  rw [UInt8.toNat_ofNat']; omega
theorem decDigits_isD (u : Nat) : ∀ c ∈ Lib.decDigits u, isD c := by
  induction u using Nat.strongRecOn with
  | _ u ih =>
    intro c hc
    rw [Lib.decDigits] at hc
    split at hc
    · rename_i h
      simp only [List.mem_singleton] at hc
      subst hc
      unfold isD
      rw [ofNat_toNat h]; omega
    · rename_i h
      rw [List.mem_append, List.mem_singleton] at hc
      rcases hc with hc | rfl
      · exact ih (u / 10) (by omega) c hc
      · unfold isD
        rw [ofNat_toNat (Nat.mod_lt _ (by omega))]; omega
theorem decDigits_ne (u : Nat) : Lib.decDigits u ≠ [] := by
  rw [Lib.decDigits]; split <;> simp
theorem decDigits_val (u : Nat) : dval 0 (Lib.decDigits u) = u := by
  induction u using Nat.strongRecOn with
  | _ u ih =>
    rw [Lib.decDigits]
    split
    · rename_i h
      simp only [dval, List.foldl_cons, List.foldl_nil]
      rw [ofNat_toNat h]; omega
    · rename_i h
      rw [dval_snoc, ih (u / 10) (by omega), ofNat_toNat (Nat.mod_lt _ (by omega))]; omega
theorem head?_app {α : Type} {l m : List α} (h : l ≠ []) : (l ++ m).head? = l.head? := by
  cases l with
  | nil => exact absurd rfl h
  | cons _ _ => rfl
theorem decDigits_head (u : Nat) (h : 10 ≤ u) : (Lib.decDigits u).head? ≠ some 48 := by
  induction u using Nat.strongRecOn with
  | _ u ih =>
    rw [Lib.decDigits, dif_neg (by omega)]
    rw [head?_app (decDigits_ne _)]
    by_cases h' : 10 ≤ u / 10
    · exact ih _ (by omega) h'
    · rw [Lib.decDigits, dif_pos (by omega)]
      simp only [List.head?_cons, ne_eq, Option.some.injEq]
      intro e
      have := congrArg UInt8.toNat e
      rw [ofNat_toNat (by omega)] at this
      simp at this
      omega
theorem ofNat_sub {c : UInt8} (h : isD c) : UInt8.ofNat (48 + (c.toNat - 48)) = c := by
  unfold isD at h
  apply UInt8.toNat.inj
  rw [UInt8.toNat_ofNat']
  omega
theorem snoc_cases {α : Type} (l : List α) (h : l ≠ []) : ∃ l' c, l = l' ++ [c] := ⟨l.dropLast, l.getLast h, (List.dropLast_concat_getLast h).symm⟩
theorem dval_pos {l : List UInt8} (hd : ∀ c ∈ l, isD c) (h0 : l ≠ []) (h : l.head? ≠ some 48) : 1 ≤ dval 0 l := by
  cases l with
  | nil => exact absurd rfl h0
  | cons c r =>
    have hc := hd c (by simp)
    unfold isD at hc
    have : c.toNat ≠ 48 := fun e => h (by simp only [List.head?_cons, Option.some.injEq]; exact UInt8.toNat.inj e)
    have hm := dval_mono r (10 * 0 + (c.toNat - 48))
    show 1 ≤ dval (10 * 0 + (c.toNat - 48)) r
    omega
/-- Digits without a zero at the front are a number's. -/
theorem decDigits_of (n : Nat) : ∀ l : List UInt8, l.length = n → (∀ c ∈ l, isD c) → l ≠ [] → (1 < l.length → l.head? ≠ some 48) → l = Lib.decDigits (dval 0 l) := by
  induction n with
  | zero => intro l hl _ h0; exact absurd (List.eq_nil_of_length_eq_zero hl) h0
  | succ n ih =>
    intro l hl hd h0 hz
    obtain ⟨l', c, rfl⟩ := snoc_cases l h0
    have hc := hd c (by simp)
    rw [dval_snoc]
    by_cases hl' : l' = []
    · subst hl'
      unfold isD at hc
      rw [Lib.decDigits, dif_pos (by simp [dval]; omega)]
      simp only [dval, List.foldl_nil, List.nil_append]
      rw [show 10 * 0 + (c.toNat - 48) = c.toNat - 48 by omega, ofNat_sub (by unfold isD; exact hc)]
    · have hz' : l'.head? ≠ some 48 := by
        have hlen : 1 < (l' ++ [c]).length := by
          have := List.length_pos_iff.2 hl'
          simp; omega
        have := hz hlen
        rwa [head?_app hl'] at this
      have hd' : ∀ x ∈ l', isD x := fun x hx => hd x (by simp [hx])
      have hp := dval_pos hd' hl' hz'
      have hcc := hc
      unfold isD at hcc
      rw [Lib.decDigits, dif_neg (by omega)]
      have e1 : (10 * dval 0 l' + (c.toNat - 48)) / 10 = dval 0 l' := by omega
      have e2 : (10 * dval 0 l' + (c.toNat - 48)) % 10 = c.toNat - 48 := by omega
      rw [e1, e2, ofNat_sub hc, ← ih l' (by simp at hl; exact hl) hd' hl' (fun _ => hz')]
/-! ### the number of a text -/
def isI (n : Int) : Prop := -9223372036854775808 ≤ n ∧ n ≤ 9223372036854775807
theorem parse_digits (M : Nat) (hM : M ≤ 18446744073709551615) : ∀ (l : List UInt8) (a : Nat), (∀ c ∈ l, isD c) → dval a l ≤ M → Lib.parseUintM M a l = .ok (dval a l)
  | [], a, _, _ => rfl
  | c :: r, a, hd, hv => by
    have hc := hd c (by simp)
    unfold isD at hc
    have hm := dval_mono r (10 * a + (c.toNat - 48))
    have hv' : dval (10 * a + (c.toNat - 48)) r ≤ M := hv
    simp only [Lib.parseUintM]
    rw [if_pos hc, if_neg (by omega), if_neg (by omega), show a * 10 + (c.toNat - 48) = 10 * a + (c.toNat - 48) by omega]
    exact parse_digits M hM r _ (fun x hx => hd x (by simp [hx])) hv'
theorem parse_itoa (n : Int) (h : isI n) : Lib.parseIntB 64 (Lib.itoa n) = .ok n := by
  unfold isI at h
  unfold Lib.itoa
  have e64 : (2 : Nat) ^ 64 - 1 = 18446744073709551615 := rfl
  have e63 : (2 : Nat) ^ (64 - 1) = 9223372036854775808 := rfl
  split
  · rename_i hn
    simp only [Lib.parseIntB]
    rw [if_pos (by right; rfl)]
    unfold Lib.parseUintB
    rw [if_neg (decDigits_ne _), parse_digits _ (by rw [e64]; exact Nat.le_refl _) _ _ (decDigits_isD _) (by rw [decDigits_val, e64]; omega), decDigits_val]
    simp only []
    have hneg : (45 : UInt8).toNat = 45 := rfl
    rw [if_neg (by intro hh; exact hh.1 hneg), if_neg (by intro hh; rw [e63] at hh; omega), if_pos hneg]
    congr 1
    omega
  · rename_i hn
    cases hD : Lib.decDigits n.toNat with
    | nil => exact absurd hD (decDigits_ne _)
    | cons c r =>
      have hc : isD c := decDigits_isD n.toNat c (by rw [hD]; simp)
      unfold isD at hc
      simp only [Lib.parseIntB]
      rw [if_neg (by omega), ← hD]
      unfold Lib.parseUintB
      rw [if_neg (decDigits_ne _), parse_digits _ (by rw [e64]; exact Nat.le_refl _) _ _ (decDigits_isD _) (by rw [decDigits_val, e64]; omega), decDigits_val]
      simp only []
      rw [if_neg (by intro hh; rw [e63] at hh; omega), if_neg (by intro hh; omega), if_neg (by omega)]
      congr 1
      omega
/-- The number of a text, if there is one. -/
def pz (l : List UInt8) : Option Int := match Lib.parseIntB 64 l with
  | .ok v => if Lib.itoa v = l then some v else none
  | _ => none
theorem pz_itoa {n : Int} (h : isI n) : pz (Lib.itoa n) = some n := by
  unfold pz; rw [parse_itoa n h]; simp
theorem pz_some {l : List UInt8} {n : Int} (h : pz l = some n) : l = Lib.itoa n := by
  unfold pz at h
  split at h
  · split at h
    · rename_i e; injection h with h; subst h; exact e.symm
    · exact absurd h (by simp)
  · exact absurd h (by simp)
theorem itoa_inj {a b : Int} (ha : isI a) (hb : isI b) (h : Lib.itoa a = Lib.itoa b) : a = b := by
  have h1 := pz_itoa ha
  rw [h, pz_itoa hb] at h1
  injection h1 with h1
  exact h1.symm
theorem itoa_nat (n : Nat) : Lib.itoa (n : Int) = Lib.decDigits n := by
  unfold Lib.itoa; rw [if_neg (by omega)]; simp
/-! ### strands -/
theorem occAt_one (l : List UInt8) (c : UInt8) (i : Nat) : Lib.occAt l [c] i = (l[i]? == some c) := by
  have e : l[i]? = (l.drop i)[0]? := by simp
  unfold Lib.occAt
  rw [e]
  cases l.drop i with
  | nil => simp [List.isPrefixOf]
  | cons b t => simp only [List.isPrefixOf, Bool.and_true, List.getElem?_cons_zero]; simp only [Option.some_beq_some]; exact BEq.comm
theorem cut_hit (a b : List UInt8) (h : (58 : UInt8) ∉ a) : Lib.cut (a ++ 58 :: b) [58] = (a, b, true) := by
  have hi : Lib.index (a ++ 58 :: b) [58] = (a.length : Int) := by
    refine Lib.index_first (by simp) (by rw [occAt_one]; simp) ?_
    intro j hj
    rw [occAt_one, beq_eq_false_iff_ne]
    rw [List.getElem?_append_left hj]
    intro e
    exact h (List.mem_of_getElem? e)
  unfold Lib.cut
  rw [hi, if_pos (by omega)]
  simp
theorem cut_miss (l : List UInt8) (h : (58 : UInt8) ∉ l) : Lib.cut l [58] = (l, [], false) := by
  have hi : Lib.index l [58] = -1 := by
    refine Lib.index_none fun j _ => ?_
    rw [occAt_one, beq_eq_false_iff_ne]
    intro e
    exact h (List.mem_of_getElem? e)
  unfold Lib.cut
  rw [hi, if_neg (by omega)]
/-- What stands ahead of the first colon. -/
theorem colon (l : List UInt8) : ((58 : UInt8) ∉ l) ∨ ∃ a b, l = a ++ 58 :: b ∧ (58 : UInt8) ∉ a := by
  induction l with
  | nil => exact .inl (by simp)
  | cons c l ih =>
    by_cases hc : c = 58
    · exact .inr ⟨[], l, by simp [hc], by simp⟩
    · rcases ih with h | ⟨a, b, rfl, h⟩
      · exact .inl (by simp only [List.mem_cons, not_or]; exact ⟨fun e => hc e.symm, h⟩)
      · exact .inr ⟨c :: a, b, rfl, by simp only [List.mem_cons, not_or]; exact ⟨fun e => hc e.symm, h⟩⟩
def strand (x : List UInt8) : List UInt8 := Lib.itoa (x.length : Int) ++ 58 :: (x ++ [44])
def firstL (l : List UInt8) : Option (List UInt8 × List UInt8) :=
  match pz (Lib.cut (l.take 1048576) [58]).1 with
  | some n => if (Lib.cut (l.take 1048576) [58]).2.2 = true ∧ 0 ≤ n ∧ (Lib.cut (l.take 1048576) [58]).2.1[n.toNat]? = some 44 then
      some ((Lib.cut (l.take 1048576) [58]).2.1.take n.toNat, l.drop ((Lib.cut (l.take 1048576) [58]).1.length + 1 + n.toNat + 1)) else none
  | none => none
theorem itoa_no58 (n : Nat) : (58 : UInt8) ∉ Lib.itoa (n : Int) := by
  rw [itoa_nat]
  intro h
  have := decDigits_isD n 58 h
  unfold isD at this
  have e : (58 : UInt8).toNat = 58 := rfl
  omega
theorem strand_length (x : List UInt8) : (strand x).length = (Lib.itoa (x.length : Int)).length + x.length + 2 := by
  simp [strand]; omega
theorem firstL_strand (x r : List UInt8) (h : (strand x).length ≤ 1048576) : firstL (strand x ++ r) = some (x, r) := by
  have hl := strand_length x
  have ht : (strand x ++ r).take 1048576 = Lib.itoa (x.length : Int) ++ 58 :: (x ++ [44] ++ r.take (1048576 - (strand x).length)) := by
    rw [List.take_append, List.take_of_length_le h]
    simp [strand]
  unfold firstL
  rw [ht, cut_hit _ _ (itoa_no58 _)]
  simp only [pz_itoa (n := (x.length : Int)) (by unfold isI; omega)]
  rw [if_pos ⟨by trivial, by omega, by simp⟩]
  simp only [Int.toNat_natCast, Option.some.injEq, Prod.mk.injEq]
  constructor
  · simp
  · rw [show (Lib.itoa (x.length : Int)).length + 1 + x.length + 1 = (strand x).length by omega]
    simp
theorem firstL_some {l x r : List UInt8} (h : firstL l = some (x, r)) : l = strand x ++ r ∧ (strand x).length ≤ 1048576 := by
  unfold firstL at h
  rcases colon (l.take 1048576) with hn | ⟨a, b, hab, hna⟩
  · rw [cut_miss _ hn] at h
    split at h
    · simp at h
    · exact absurd h (by simp)
  · rw [hab, cut_hit _ _ hna] at h
    simp only at h
    split at h
    · rename_i n hp
      split at h
      · rename_i hc
        obtain ⟨_, h0, h44⟩ := hc
        simp only [Option.some.injEq, Prod.mk.injEq] at h
        obtain ⟨hx, hr⟩ := h
        obtain ⟨m, rfl⟩ : ∃ m : Nat, n = m := ⟨n.toNat, by omega⟩
        simp only [Int.toNat_natCast] at h44 hx hr
        have ha := pz_some hp
        obtain ⟨hm, h44'⟩ := List.getElem?_eq_some_iff.1 h44
        have hxl : x.length = m := by rw [← hx, List.length_take]; omega
        have hb : b = x ++ 44 :: b.drop (m + 1) := by
          rw [← hx]
          conv => lhs; rw [← List.take_append_drop m b, List.drop_eq_getElem_cons hm, h44']
        have hs : strand x = a ++ 58 :: (x ++ [44]) := by unfold strand; rw [hxl, ← ha]
        have htl : l.take 1048576 = strand x ++ b.drop (m + 1) := by
          rw [hab, hs]
          conv => lhs; rw [hb]
          simp
        have hlen : (strand x).length = a.length + 1 + m + 1 := by rw [hs]; simp [hxl]; omega
        have hle : (strand x).length ≤ (l.take 1048576).length := by rw [htl, List.length_append]; omega
        rw [List.length_take] at hle
        refine ⟨?_, by omega⟩
        rw [← hr, ← hlen]
        conv => lhs; rw [← List.take_append_drop (strand x).length l]
        congr 1
        have := congrArg (List.take (strand x).length) htl
        rw [List.take_take, List.take_left, Nat.min_eq_left (by omega)] at this
        exact this
      · exact absurd h (by simp)
    · exact absurd h (by simp)
/-! ### knots -/
def tieD (ss : List (List UInt8)) : List UInt8 := (ss.map strand).flatten
theorem tie_cons (x : List UInt8) (ss : List (List UInt8)) : tieD (x :: ss) = strand x ++ tieD ss := rfl
theorem tie_append (a b : List (List UInt8)) : tieD (a ++ b) = tieD a ++ tieD b := by simp [tieD]
def untieF : Nat → List UInt8 → Option (List (List UInt8))
  | 0, _ => none
  | k + 1, l => if l = [] then some [] else match firstL l with
    | some (x, r) => (untieF k r).map (x :: ·)
    | none => none
theorem strand_ne (x : List UInt8) : strand x ≠ [] := by intro h; have := strand_length x; rw [h] at this; simp at this
theorem untieF_tie : ∀ (ss : List (List UInt8)) (k : Nat), ss.length < k → (tieD ss).length ≤ 1048576 → untieF k (tieD ss) = some ss
  | [], k + 1, _, _ => by simp [untieF, tieD]
  | x :: ss, k + 1, hk, hl => by
    rw [tie_cons, List.length_append] at hl
    show untieF (k + 1) (strand x ++ tieD ss) = _
    simp only [untieF]
    rw [if_neg (by simp [strand_ne]), firstL_strand x _ (by omega)]
    simp only [untieF_tie ss k (by simp at hk; omega) (by omega), Option.map_some]
  | [], 0, hk, _ => by simp at hk
  | _ :: _, 0, hk, _ => by simp at hk
theorem untieF_some : ∀ (k : Nat) (l : List UInt8) (ss : List (List UInt8)), untieF k l = some ss → l = tieD ss
  | 0, _, _, h => by simp [untieF] at h
  | k + 1, l, ss, h => by
    simp only [untieF] at h
    split at h
    · rename_i hl
      injection h with h
      subst h; exact hl
    · split at h
      · rename_i x r hf
        rw [Option.map_eq_some_iff] at h
        obtain ⟨tt, ht, rfl⟩ := h
        rw [tie_cons, ← untieF_some k r tt ht]
        exact (firstL_some hf).1
      · exact absurd h (by simp)
theorem tie_count (ss : List (List UInt8)) : ss.length ≤ (tieD ss).length := by
  induction ss with
  | nil => simp
  | cons x ss ih => rw [tie_cons, List.length_append, List.length_cons, strand_length]; omega
def untieL (l : List UInt8) : Option (List (List UInt8)) :=
  if l.length ≤ 1048576 then (match untieF (l.length + 1) l with | some ss => if ss.length ≤ 4096 then some ss else none | none => none) else none
theorem untieL_tie (ss : List (List UInt8)) (h1 : ss.length ≤ 4096) (h2 : (tieD ss).length ≤ 1048576) : untieL (tieD ss) = some ss := by
  unfold untieL
  rw [if_pos h2, untieF_tie ss _ (by have := tie_count ss; omega) h2]
  simp [h1]
theorem untieL_some {l : List UInt8} {ss : List (List UInt8)} (h : untieL l = some ss) : l = tieD ss ∧ ss.length ≤ 4096 ∧ l.length ≤ 1048576 := by
  unfold untieL at h
  split at h
  · rename_i hl
    split at h
    · rename_i tt ht
      split at h
      · rename_i hc
        injection h with h
        subst h
        exact ⟨untieF_some _ _ _ ht, hc, hl⟩
      · exact absurd h (by simp)
    · exact absurd h (by simp)
  · exact absurd h (by simp)
theorem tie_inj : ∀ {a b : List (List UInt8)}, (tieD a).length ≤ 1048576 → tieD a = tieD b → a = b
  | [], [], _, _ => rfl
  | [], y :: b, _, h => by rw [tie_cons] at h; exact absurd h.symm (by simp [tieD, strand_ne])
  | x :: a, [], _, h => by rw [tie_cons] at h; exact absurd h (by simp [tieD, strand_ne])
  | x :: a, y :: b, hl, h => by
    rw [tie_cons, tie_cons] at h
    rw [tie_cons, List.length_append] at hl
    have h1 := firstL_strand x (tieD a) (by omega)
    have hl2 := congrArg List.length h
    rw [List.length_append, List.length_append] at hl2
    have h2 := firstL_strand y (tieD b) (by omega)
    rw [h, h2] at h1
    injection h1 with h1
    injection h1 with hx ht
    rw [hx, tie_inj (by omega) ht.symm]
/-! ### a strand's front, digit by digit -/
theorem dval_lt (l : List UInt8) (hd : ∀ c ∈ l, isD c) : dval 0 l < 10 ^ l.length := by
  have key : ∀ (n : Nat) (l : List UInt8), l.length = n → (∀ c ∈ l, isD c) → dval 0 l < 10 ^ n := by
    intro n
    induction n with
    | zero => intro l hl _; rw [List.eq_nil_of_length_eq_zero hl]; simp [dval]
    | succ n ih =>
      intro l hl hd
      obtain ⟨l', c, rfl⟩ := snoc_cases l (by intro e; rw [e] at hl; simp at hl)
      have h1 := ih l' (by simpa using hl) (fun x hx => hd x (by simp [hx]))
      have h2 := hd c (by simp)
      unfold isD at h2
      rw [dval_snoc, Nat.pow_succ]
      omega
  exact key _ l rfl hd
theorem nDigits_le7 (n : Nat) (h : n ≤ 1048576) : (Lib.decDigits n).length ≤ 7 := by
  rw [Lib.decDigits_length]
  have := Lib.nDigits_unique
  by_cases h0 : Lib.nDigits n ≤ 7
  · exact h0
  · have h1 : 10 ^ 7 ≤ n := by
      have key : ∀ (u : Nat), 10 ^ (Lib.nDigits u - 1) ≤ u ∨ u = 0 := by
        intro u
        induction u using Nat.strongRecOn with
        | _ u ih =>
          by_cases hu : u < 10
          · rw [Lib.nDigits_small hu]; omega
          · rw [Lib.nDigits_big hu]
            have hp := Lib.nDigits_pos (u / 10)
            rcases ih (u / 10) (by omega) with h | h
            · left
              obtain ⟨j, hj⟩ : ∃ j, Lib.nDigits (u / 10) = j + 1 := ⟨Lib.nDigits (u / 10) - 1, by omega⟩
              rw [hj] at h ⊢
              simp only [Nat.add_sub_cancel] at h ⊢
              rw [Nat.pow_succ]; omega
            · omega
      rcases key n with h | h
      · exact Nat.le_trans (Nat.pow_le_pow_right (by omega) (by omega)) h
      · subst h; rw [Lib.nDigits_small (by omega)] at h0; omega
    omega
theorem ref_first (l : List UInt8) (k : Nat) (hk : k ≤ l.length) (hk8 : k ≤ 8) (hd : ∀ c ∈ l.take k, isD c) (hstop : ∀ c, l[k]? = some c → k < 8 → ¬ isD c) :
    firstL l = if k ≠ 0 ∧ l[k]? = some 58 ∧ ¬ (1 < k ∧ l.head? = some 48) ∧ dval 0 (l.take k) + k + 2 ≤ l.length ∧ dval 0 (l.take k) + k + 2 ≤ 1048576 ∧ l[k + 1 + dval 0 (l.take k)]? = some 44
      then some ((l.drop (k + 1)).take (dval 0 (l.take k)), l.drop (k + 2 + dval 0 (l.take k))) else none := by
  generalize hn : dval 0 (l.take k) = n
  split
  · rename_i hc
    obtain ⟨h0, h58, hz, hl1, hl2, h44⟩ := hc
    have hD : l.take k = Lib.decDigits n := by
      rw [← hn]
      refine decDigits_of _ _ rfl hd (by intro e; have := congrArg List.length e; rw [List.length_take, List.length_nil] at this; omega) ?_
      intro hlen
      rw [List.length_take] at hlen
      rw [List.head?_take, if_neg h0]
      intro e
      exact hz ⟨by omega, e⟩
    have hx : ((l.drop (k + 1)).take n).length = n := by rw [List.length_take, List.length_drop]; omega
    have hs : l = strand ((l.drop (k + 1)).take n) ++ l.drop (k + 2 + n) := by
      unfold strand
      rw [hx, itoa_nat, ← hD]
      conv => lhs; rw [← List.take_append_drop k l]
      rw [List.append_assoc]
      congr 1
      obtain ⟨hk', e58⟩ := List.getElem?_eq_some_iff.1 h58
      rw [List.drop_eq_getElem_cons hk', e58, List.cons_append]
      congr 1
      conv => lhs; rw [← List.take_append_drop n (l.drop (k + 1))]
      rw [List.append_assoc]
      congr 1
      rw [List.drop_drop]
      obtain ⟨hk2, e44⟩ := List.getElem?_eq_some_iff.1 h44
      rw [List.drop_eq_getElem_cons hk2, e44]
      simp only [List.cons_append, List.nil_append]
      congr 2
      omega
    conv => lhs; rw [hs]
    refine firstL_strand _ _ ?_
    rw [strand_length, hx, itoa_nat, ← hD, List.length_take]
    omega
  · rename_i hc
    cases hf : firstL l with
    | none => rfl
    | some p =>
      obtain ⟨x, r⟩ := p
      exfalso
      apply hc
      obtain ⟨hl, hlen⟩ := firstL_some hf
      have hsl := strand_length x
      have hm := nDigits_le7 x.length (by omega)
      have hno := itoa_no58 x.length
      rw [itoa_nat] at hsl hno
      have hl' : l = Lib.decDigits x.length ++ 58 :: (x ++ 44 :: r) := by rw [hl]; unfold strand; rw [itoa_nat]; simp
      have hk1 : k = (Lib.decDigits x.length).length := by
        rcases Nat.lt_trichotomy k (Lib.decDigits x.length).length with h | h | h
        · exfalso
          refine hstop ((Lib.decDigits x.length)[k]) ?_ (by omega) (decDigits_isD _ _ (List.getElem_mem h))
          rw [hl', List.getElem?_append_left h, List.getElem?_eq_getElem h]
        · exact h
        · exfalso
          have h58 : (58 : UInt8) ∈ l.take k := by
            rw [hl', List.take_append, List.take_of_length_le (by omega)]
            rw [show k - (Lib.decDigits x.length).length = (k - (Lib.decDigits x.length).length - 1) + 1 by omega, List.take_succ_cons]
            simp
          have := hd 58 h58
          unfold isD at this
          have e : (58 : UInt8).toNat = 58 := rfl
          omega
      have ht : l.take k = Lib.decDigits x.length := by rw [hk1, hl']; simp
      have hnx : n = x.length := by rw [← hn, ht, decDigits_val]
      subst hnx
      have hll : l.length = k + 1 + x.length + 1 + r.length := by rw [hl', hk1]; simp; omega
      have hne := decDigits_ne x.length
      have hpos := List.length_pos_iff.2 hne
      refine ⟨by omega, ?_, ?_, by omega, by omega, ?_⟩
      · rw [hk1, hl']; simp
      · rintro ⟨h1, h2⟩
        rw [hl', head?_app hne] at h2
        by_cases h10 : 10 ≤ x.length
        · exact decDigits_head _ h10 h2
        · rw [hk1, Lib.decDigits, dif_pos (by omega)] at h1; simp at h1
      · rw [hl', hk1, List.getElem?_append_right (by omega), show (Lib.decDigits x.length).length + 1 + x.length - (Lib.decDigits x.length).length = x.length + 1 by omega]
        simp
end Go.Proofs.YtjpihfjgomoijaaDoor.A
end
section
/- Contracts of the reference's package furlongref01 over this dump: digits, Num, Int, Strand, Tie, First; in the words of the plain text A. -/
namespace Go.Proofs.YtjpihfjgomoijaaDoor.K
open Go.RowKit Go.Proofs.YtjpihfjgomoijaaDoorW.PrintWords Go.Proofs.YtjpihfjgomoijaaDoorW.PrintLast Go.Proofs.YtjpihfjgomoijaaDoor.A
/-! ### digits, Num -/
theorem decDigits_size (u : Nat) (h : u ≤ 18446744073709551615) : (B (Lib.decDigits u)).size ≤ 20 := by
  rw [B_size, Lib.decDigits_length]; exact Lib.nDigits_le20 u (by omega)
theorem digit_piece {u : Nat} (h : u < 10) : (⟨#[48, 49, 50, 51, 52, 53, 54, 55, 56, 57]⟩ : ByteArray).extract u (u + 1) = B (Lib.decDigits u) := by
  obtain rfl | rfl | rfl | rfl | rfl | rfl | rfl | rfl | rfl | rfl : u = 0 ∨ u = 1 ∨ u = 2 ∨ u = 3 ∨ u = 4 ∨ u = 5 ∨ u = 6 ∨ u = 7 ∨ u = 8 ∨ u = 9 := by omega
  all_goals (rw [Lib.decDigits, dif_pos (by omega)]; exact ext_data (by decide +kernel))
set_option maxHeartbeats 2000000 in
set_option maxRecDepth 100000 in
theorem digits_any (n : Nat) : ∀ (u : Nat) (x : Int) (w : World), x = (u : Int) → u < n → u ≤ 18446744073709551615 →
    Calls Tryd.prog 52 #[.int .u64 x] w fun e w' => e = .returned (.string (B (Lib.decDigits u))) ∧ Drawn0 w w' := by
  induction n with
  | zero => intro u x w hx h; omega
  | succ n ih =>
    intro u x w hx hu hm
    subst hx
    by_cases h : u < 10
    · have hp := Lib.hid (digit_piece h)
      go_enter Tryd.func52, Tryd.ntmps52
      go_wp2_with fail
      go_ret
      exact ⟨by rw [← hp.out]; rfl, Drawn0.refl _⟩
    · have HD := Lib.hid (show Lib.decDigits u = Lib.decDigits (u / 10) ++ Lib.decDigits (u % 10) by
        rw [Lib.decDigits, dif_neg h, Lib.decDigits_one (Nat.mod_lt _ (by omega))])
      have h1 := decDigits_size (u / 10) (by omega)
      have h2 := decDigits_size (u % 10) (by omega)
      have ha := ih (u / 10)
      have hb := ih (u % 10)
      clear ih
      go_enter Tryd.func52, Tryd.ntmps52
      go_wp2_with (first | (go_at_call 52; refine (ha _ _ (by omega) (by omega) (by omega)).mono ?_; rintro e w1 ⟨rfl, ⟨m1, rfl⟩⟩; clear ha) | fail)
      go_wp2_with (first | (go_at_call 52; refine (hb _ _ (by omega) (by omega) (by omega)).mono ?_; rintro e w1 ⟨rfl, ⟨m2, rfl⟩⟩; clear hb) | fail)
      go_ret
      exact ⟨by rw [HD.out, ← B_append]; rfl, ⟨⟨_, rfl⟩⟩⟩
theorem bits_not (n : Int) (h0 : -9223372036854775808 ≤ n) (h1 : n < 0) : Go.bits .xor .i64 (-1) n = -n - 1 := by
  have hx : BitVec.ofInt 64 (-1) = BitVec.allOnes 64 := by decide
  show IntKind.i64.wrap (((BitVec.ofInt 64 (-1) ^^^ BitVec.ofInt 64 n).toNat : Nat) : Int) = _
  rw [hx, BitVec.allOnes_xor, BitVec.toNat_not, BitVec.toNat_ofInt, IntKind.wrap_i64]
  omega
def r01_Num.f (a0 : Int) : Option ByteArray := if -9223372036854775808 ≤ a0 then (if a0 ≤ 9223372036854775807 then some (numB a0) else none) else none
set_option maxHeartbeats 2000000 in
set_option maxRecDepth 100000 in
theorem r01_Num.calls (a0 : Int) (r : ByteArray) (w : World) (hG : TheG w) (h : r01_Num.f a0 = some r) :
    Calls Tryd.prog 42 #[.int .i64 a0] w fun e w' => e = .returned (.string r) ∧ Drawn0 w w' := by
  unfold r01_Num.f at h
  split at h
  case isFalse => exact absurd h (by simp)
  case isTrue h0 =>
  split at h
  case isFalse => exact absurd h (by simp)
  case isTrue h1 =>
  obtain rfl := Option.some.inj h
  clear h
  by_cases hn : a0 < 0
  · have hb := bits_not a0 h0 hn
    have hz := decDigits_size a0.natAbs (by omega)
    have HR := Lib.hid (show numB a0 = (⟨#[45]⟩ : ByteArray) ++ B (Lib.decDigits a0.natAbs) by
      unfold numB Lib.itoa; rw [if_pos hn]; exact ext_data (by rw [data_append, B_data]; rfl))
    go_enter Tryd.func42, Tryd.ntmps42
    go_wp2_with (go_at_call 52; fail)
    all_goals try (rename_i hsg; exact absurd hsg (by decide))
    refine (digits_any _ a0.natAbs _ _ (by first | omega | (rw [IntWalk.u64_in (-a0 - 1) (by omega), IntWalk.u64_in _ (by omega)]; omega)) (Nat.lt_succ_self _) (by omega)).mono ?_
    rintro e w1 ⟨rfl, ⟨m1, rfl⟩⟩
    go_wp2
    all_goals first
      | (rename_i hsg; exact absurd hsg (by decide))
      | (go_ret
         exact ⟨by rw [HR.out]; rfl, ⟨⟨_, rfl⟩⟩⟩)
  · have HR := Lib.hid (show numB a0 = B (Lib.decDigits a0.toNat) by unfold numB Lib.itoa; rw [if_neg hn]; rfl)
    go_enter Tryd.func42, Tryd.ntmps42
    go_wp2_with (go_at_call 52; fail)
    all_goals try (rename_i hsg; exact absurd hsg (by decide))
    refine (digits_any _ a0.toNat _ _ (by first | omega | (rw [IntWalk.u64_in _ (by omega)]; omega)) (Nat.lt_succ_self _) (by omega)).mono ?_
    rintro e w1 ⟨rfl, ⟨m1, rfl⟩⟩
    go_wp2
    all_goals first
      | (rename_i hsg; exact absurd hsg (by decide))
      | (go_ret
         exact ⟨by rw [HR.out]; rfl, ⟨⟨_, rfl⟩⟩⟩)
/-! ### Strand, Tie -/
theorem strand_B (s : ByteArray) : numB (s.size : Int) ++ (⟨#[58]⟩ : ByteArray) ++ s ++ (⟨#[44]⟩ : ByteArray) = B (strand s.data.toList) := by
  apply ext_data
  rw [data_append, data_append, data_append, B_data]
  unfold strand
  rw [← Lib.size_eq]
  simp [numB]
theorem itoa_le (n : Nat) (h : n ≤ 9223372036854775807) : (Lib.itoa (n : Int)).length ≤ 20 := by
  have := decDigits_size n (by omega)
  rw [B_size] at this
  rw [itoa_nat]; exact this
def r01_Strand.f (a0 : ByteArray) : Option ByteArray := if a0.size ≤ 4611686018427387904 then some (B (strand a0.data.toList)) else none
set_option maxHeartbeats 1000000 in
set_option maxRecDepth 100000 in
theorem r01_Strand.calls (a0 : ByteArray) (r : ByteArray) (w : World) (hG : TheG w) (h : r01_Strand.f a0 = some r) :
    Calls Tryd.prog 53 #[.string a0] w fun e w' => e = .returned (.string r) ∧ Drawn0 w w' := by
  unfold r01_Strand.f at h
  split at h
  case isFalse => exact absurd h (by simp)
  case isTrue h0 =>
  obtain rfl := Option.some.inj h
  clear h
  have hN := Lib.hid (show r01_Num.f (a0.size : Int) = some (numB (a0.size : Int)) by unfold r01_Num.f; rw [if_pos (by omega), if_pos (by omega)])
  have hz : (numB (a0.size : Int)).size ≤ 20 := by rw [numB_size]; exact itoa_le _ (by omega)
  have HS := Lib.hid (strand_B a0)
  generalize numB (a0.size : Int) = t at hN hz HS
  go_enter Tryd.func53, Tryd.ntmps53
  go_wp2_with (first | (go_at_call 42; refine (r01_Num.calls _ _ _ hG hN.out).mono ?_; rintro e w1 ⟨rfl, ⟨m1, rfl⟩⟩) | fail)
  go_ret
  exact ⟨by rw [← HS.out]; rfl, ⟨⟨_, rfl⟩⟩⟩
def tieB (l : List ByteArray) : List UInt8 := tieD (l.map fun s => s.data.toList)
theorem tieB_snoc (l : List ByteArray) (k : Nat) (h : k < l.length) : tieB (l.take (k + 1)) = tieB (l.take k) ++ strand l[k].data.toList := by
  unfold tieB
  rw [List.take_succ_eq_append_getElem h, List.map_append, tie_append]
  simp [tieD]
theorem tieB_le (l : List ByteArray) (k : Nat) : (tieB (l.take k)).length ≤ (tieB l).length := by
  unfold tieB
  conv => rhs; rw [← List.take_append_drop k l]
  rw [List.map_append, tie_append, List.length_append]
  omega
def r01_Tie.f (l0 : List ByteArray) : Option ByteArray := if (tieB l0).length ≤ 4611686018427387904 then some (B (tieB l0)) else none
set_option maxHeartbeats 1000000 in
set_option maxRecDepth 100000 in
theorem r01_Tie.calls (A0 : Option Addr) (c0 : Nat) (l0 : List ByteArray) (r : ByteArray) (w : World) (hG : TheG w) (hr0 : Kd.C Kd.string w A0 l0.length l0) (hc0 : l0.length ≤ c0) (h : r01_Tie.f l0 = some r) :
    Calls Tryd.prog 43 #[.slice A0 l0.length c0] w fun e w' => e = .returned (.string r) ∧ Drawn0 w w' := by
  unfold r01_Tie.f at h
  split at h
  case isFalse => exact absurd h (by simp)
  case isTrue hs =>
  obtain rfl := Option.some.inj h
  have hmax : l0.length ≤ 9223372036854775807 := hr0.2.1
  have HC := Lib.hid hr0
  have HS := Lib.hid hs
  clear hs hr0 h
  go_enter Tryd.func43, Tryd.ntmps43
  go_wp2
  go_loopw [3, 4] (fun s i wr => ∃ k : Nat, k ≤ l0.length ∧ i = .int .i64 k ∧ s = .string (B (tieB (l0.take k))) ∧ Hid (Drawn0 w wr)) (fun _ i _ => l0.length - (intOf i).toNat)
  case atStart => exact ⟨0, Nat.zero_le _, rfl, rfl, Lib.hid (Drawn0.refl _)⟩
  case round =>
    obtain ⟨k, hk, rfl, rfl, HW⟩ := hrel
    by_cases hlt : k < l0.length
    · obtain ⟨ad, ead, hcell⟩ := Kd.at_string (Kd.C_below HC.out HW.out.below) (k : Int) (by omega) (by omega)
      subst ead
      have hrd : rdOf ByteArray.empty l0 (k : Int) = l0[k] := by simp [rdOf, hlt]
      rw [hrd] at hcell
      simp only [Int.toNat_natCast] at hcell
      have hle := tieB_le l0 (k + 1)
      have hsn := tieB_snoc l0 k hlt
      rw [hsn, List.length_append, strand_length, ← Lib.size_eq] at hle
      have hs := HS.out
      have hN := Lib.hid (show r01_Strand.f l0[k] = some (B (strand l0[k].data.toList)) by unfold r01_Strand.f; rw [if_pos (by omega)])
      have hz1 : (B (tieB (l0.take k))).size + (B (strand l0[k].data.toList)).size ≤ 4611686018427387904 := by rw [B_size, B_size, strand_length, ← Lib.size_eq]; omega
      have HSN := Lib.hid (show B (tieB (l0.take k)) ++ B (strand l0[k].data.toList) = B (tieB (l0.take (k + 1))) by rw [B_append, ← hsn])
      have HGr := Lib.hid (hG.quiet HW.out)
      clear hrd hsn hle hs
      go_wp2_with (first | (go_at_call 53; refine (r01_Strand.calls _ _ _ HGr.out hN.out).mono ?_; rintro e w1 ⟨rfl, ⟨m1, rfl⟩⟩) | fail)
      go_roundw
      case rel => exact ⟨k + 1, by omega, by go_num, by rw [HSN.out], Lib.hid (HW.out.step _)⟩
      case measure => simp [intOf]; omega
    · obtain rfl : k = l0.length := by omega
      rw [List.take_length]
      go_wp2
      go_ret
      exact ⟨rfl, HW.out⟩
/-! ### First -/
def firstR (s : ByteArray) : ByteArray × ByteArray × Int := match firstL s.data.toList with
  | some (x, r) => (B x, B r, 0)
  | none => (⟨#[]⟩, s, 10)
def r01_First.f (a0 : ByteArray) : Option (ByteArray × ByteArray × Int) := if a0.size ≤ 4611686018427387904 then some (firstR a0) else none
theorem byte_digit {s : ByteArray} {k : Nat} (h : k < s.size) : s.data.toList[k]? = some s[k] := by
  rw [List.getElem?_eq_getElem (by rw [← Lib.size_eq]; exact h)]; rfl
set_option maxHeartbeats 4000000 in
set_option maxRecDepth 100000 in
theorem r01_First.calls (a0 : ByteArray) (r1 r2 : ByteArray) (r3 : Int) (w : World) (hG : TheG w) (h : r01_First.f a0 = some (r1, r2, r3)) :
    Calls Tryd.prog 47 #[.string a0] w fun e w' => e = .returned (.tuple #[.string r1, .string r2, .int .i64 r3]) ∧ Drawn0 w w' := by
  unfold r01_First.f at h
  split at h
  case isFalse => exact absurd h (by simp)
  case isTrue hs =>
  have HR := Lib.hid (Option.some.inj h)
  clear h
  go_enter Tryd.func47, Tryd.ntmps47
  go_wp2
  go_loop [5, 6] (fun n i => ∃ k m : Nat, k ≤ a0.size ∧ k ≤ 8 ∧ i = .int .i64 k ∧ n = .int .i64 m ∧ m < 100000000 ∧ Hid (m = dval 0 (a0.data.toList.take k)) ∧ Hid (∀ c ∈ a0.data.toList.take k, isD c)) (fun _ i => 8 - (intOf i).toNat)
  case atStart => exact ⟨0, 0, Nat.zero_le _, by omega, rfl, rfl, by omega, Lib.hid rfl, Lib.hid (by simp)⟩
  case round =>
    obtain ⟨k, m, hk, hk8, rfl, rfl, hm, HM, HD⟩ := hrel
    by_cases hd : ∃ h : k < a0.size, k < 8 ∧ 48 ≤ a0[k].toNat ∧ a0[k].toNat ≤ 57
    · obtain ⟨hlt, h8, hd0, hd1⟩ := hd
      have hM2 : 10 * m + (a0[k].toNat - 48) = dval 0 (a0.data.toList.take (k + 1)) := by
        have hts : a0.data.toList.take (k + 1) = a0.data.toList.take k ++ [a0[k]] := by
          rw [List.take_succ_eq_append_getElem (by rw [← Lib.size_eq]; exact hlt)]; rfl
        rw [hts, dval_snoc, HM.out]
      have hD2 : ∀ c ∈ a0.data.toList.take (k + 1), isD c := by
        have hts : a0.data.toList.take (k + 1) = a0.data.toList.take k ++ [a0[k]] := by
          rw [List.take_succ_eq_append_getElem (by rw [← Lib.size_eq]; exact hlt)]; rfl
        rw [hts]
        intro c hc
        rw [List.mem_append, List.mem_singleton] at hc
        rcases hc with hc | rfl
        · exact HD.out c hc
        · exact ⟨hd0, hd1⟩
      have hlt2 : 10 * m + (a0[k].toNat - 48) < 100000000 := by
        have := dval_lt _ hD2
        rw [← hM2, List.length_take, ← Lib.size_eq] at this
        exact Nat.lt_of_lt_of_le this (Nat.pow_le_pow_right (by omega) (by omega : min (k + 1) a0.size ≤ 8))
      have HM2 := Lib.hid hM2
      have HD2 := Lib.hid hD2
      clear hM2 hD2
      generalize hc : a0[k].toNat = c at hd0 hd1 hlt2 HM2
      go_wp2
      go_round
      case rel => exact ⟨k + 1, 10 * m + (c - 48), by omega, by omega, by go_num, congrArg (Value.int .i64) (by omega), by omega, HM2, HD2⟩
      case measure => simp [intOf]; omega
    · have hstop : ∀ c, a0.data.toList[k]? = some c → k < 8 → ¬ isD c := by
        intro c hc h8 hD
        obtain ⟨hlt, hc⟩ := List.getElem?_eq_some_iff.1 hc
        rw [← Lib.size_eq] at hlt
        refine hd ⟨hlt, h8, ?_⟩
        have : a0[k] = c := hc
        rw [this]; exact hD
      have hF := ref_first a0.data.toList k (by rw [← Lib.size_eq]; exact hk) hk8 HD.out hstop
      rw [← HM.out] at hF
      have hbad : ¬ (k ≠ 0 ∧ a0.data.toList[k]? = some 58 ∧ ¬ (1 < k ∧ a0.data.toList.head? = some 48) ∧ m + k + 2 ≤ a0.data.toList.length ∧ m + k + 2 ≤ 1048576 ∧ a0.data.toList[k + 1 + m]? = some 44) → r1 = (⟨#[]⟩ : ByteArray) ∧ a0 = r2 ∧ r3 = 10 := by
        intro hn
        rw [if_neg hn] at hF
        have := HR.out
        unfold firstR at this
        rw [hF] at this
        simp only [Prod.mk.injEq] at this
        exact ⟨this.1.symm, this.2.1, this.2.2.symm⟩
      by_cases hlt : k < a0.size
      · have hk58 := byte_digit hlt
        by_cases h58 : a0[k].toNat = 58
        · have h58' : a0[k] = 58 := UInt8.toNat.inj h58
          rw [h58'] at hk58
          clear h58' hd hstop
          have h0s : 0 < a0.size := by omega
          have hhd : a0.data.toList.head? = some a0[0] := by rw [List.head?_eq_getElem?]; exact byte_digit h0s
          by_cases h0 : k = 0
          · obtain ⟨rfl, rfl, rfl⟩ := hbad (by rintro ⟨h, _⟩; exact h h0)
            subst h0
            clear hbad hF hk58 HR hhd
            go_wp2
            all_goals (go_ret3; exact ⟨rfl, Drawn0.refl _⟩)
          by_cases hz : 1 < k ∧ a0[0].toNat = 48
          · obtain ⟨rfl, rfl, rfl⟩ := hbad (by
              rintro ⟨_, _, h, _⟩
              exact h ⟨hz.1, by rw [hhd]; exact congrArg some (UInt8.toNat.inj hz.2)⟩)
            obtain ⟨h1, h48⟩ := hz
            have b0 : ((k : Int) == 0) = false := by rw [beq_eq_false_iff_ne]; omega
            have b1 : ((k : Int) == (a0.size : Int)) = false := by rw [beq_eq_false_iff_ne]; omega
            clear hbad hF hk58 HR hhd
            go_wp2
            all_goals (go_ret3; exact ⟨rfl, Drawn0.refl _⟩)
          have b0 : ((k : Int) == 0) = false := by rw [beq_eq_false_iff_ne]; omega
          have b1 : ((k : Int) == (a0.size : Int)) = false := by rw [beq_eq_false_iff_ne]; omega
          have hz' : ¬ (1 < k ∧ a0.data.toList.head? = some 48) := by
            rintro ⟨h1, h⟩
            rw [hhd] at h
            injection h with h
            exact hz ⟨h1, by rw [h]; rfl⟩
          by_cases hl1 : m + k + 2 ≤ a0.size
          · by_cases hl2 : m + k + 2 ≤ 1048576
            · have hix : k + 1 + m < a0.size := by omega
              have h44i := byte_digit hix
              by_cases h44 : a0[k + 1 + m].toNat = 44
              · have hsize := Lib.size_eq a0
                have hHR := HR.out
                have h44' : a0[k + 1 + m] = 44 := UInt8.toNat.inj h44
                unfold firstR at hHR
                rw [hF, if_pos ⟨h0, hk58, hz', by omega, hl2, by rw [h44i, h44']⟩] at hHR
                simp only [Prod.mk.injEq] at hHR
                obtain ⟨e1, e2, rfl⟩ := hHR
                have E1 := Lib.hid (show a0.extract (k + 1) (k + 1 + m) = r1 by rw [← e1]; exact ext_data (by rw [Lib.extract_data, B_data, show k + 1 + m - (k + 1) = m by omega]))
                have E2 := Lib.hid (show a0.extract (k + 2 + m) a0.size = r2 by rw [← e2]; exact ext_data (by rw [Lib.extract_data, B_data, Lib.size_eq]; exact List.take_of_length_le (by rw [List.length_drop]; omega)))
                clear hbad hF hk58 HR hhd hz' h44i h44' e1 e2 hsize
                by_cases h1 : 1 < k
                · have h48 : ((a0[0].toNat : Int) == 48) = false := by rw [beq_eq_false_iff_ne]; exact fun h => hz ⟨h1, by omega⟩
                  clear hz
                  go_wp2
                  all_goals
                    go_quiet (fail)
                    go_wp2
                    go_ret3
                    exact ⟨by rw [← E1.out, ← E2.out]; rfl, ⟨⟨_, rfl⟩⟩⟩
                · clear hz
                  go_wp2
                  all_goals
                    go_quiet (fail)
                    go_wp2
                    go_ret3
                    exact ⟨by rw [← E1.out, ← E2.out]; rfl, ⟨⟨_, rfl⟩⟩⟩
              · obtain ⟨rfl, rfl, rfl⟩ := hbad (by
                  rintro ⟨_, _, _, _, _, h⟩
                  rw [h44i] at h
                  injection h with h
                  exact h44 (by rw [h]; rfl))
                clear hbad hF hk58 HR hhd hz' h44i
                have b44 : ((a0[k + 1 + m].toNat : Int) == 44) = false := by rw [beq_eq_false_iff_ne]; omega
                have b45 : ((a0[k + 1 + m].toNat : Int) != 44) = true := by rw [bne_iff_ne]; omega
                by_cases h1 : 1 < k
                · have h48 : ((a0[0].toNat : Int) == 48) = false := by rw [beq_eq_false_iff_ne]; exact fun h => hz ⟨h1, by omega⟩
                  clear hz
                  go_wp2
                  all_goals (go_ret3; exact ⟨rfl, Drawn0.refl _⟩)
                · clear hz
                  go_wp2
                  all_goals (go_ret3; exact ⟨rfl, Drawn0.refl _⟩)
            · obtain ⟨rfl, rfl, rfl⟩ := hbad (by rintro ⟨_, _, _, _, h, _⟩; exact hl2 h)
              clear hbad hF hk58 HR hhd hz'
              by_cases h1 : 1 < k
              · have h48 : ((a0[0].toNat : Int) == 48) = false := by rw [beq_eq_false_iff_ne]; exact fun h => hz ⟨h1, by omega⟩
                clear hz
                go_wp2
                all_goals (go_ret3; exact ⟨rfl, Drawn0.refl _⟩)
              · clear hz
                go_wp2
                all_goals (go_ret3; exact ⟨rfl, Drawn0.refl _⟩)
          · obtain ⟨rfl, rfl, rfl⟩ := hbad (by rintro ⟨_, _, _, h, _⟩; rw [← Lib.size_eq] at h; exact hl1 h)
            clear hbad hF hk58 HR hhd hz'
            have hl3 : (a0.size : Int) - k - 2 < m := by omega
            by_cases h1 : 1 < k
            · have h48 : ((a0[0].toNat : Int) == 48) = false := by rw [beq_eq_false_iff_ne]; exact fun h => hz ⟨h1, by omega⟩
              clear hz
              go_wp2
              all_goals (go_ret3; exact ⟨rfl, Drawn0.refl _⟩)
            · clear hz
              go_wp2
              all_goals (go_ret3; exact ⟨rfl, Drawn0.refl _⟩)
        · obtain ⟨rfl, rfl, rfl⟩ := hbad (by
            rintro ⟨_, h, _⟩
            rw [hk58] at h
            injection h with h
            exact h58 (by rw [h]; rfl))
          clear hbad hF hk58 hstop HR
          have hnd : ¬ (k < 8 ∧ 48 ≤ a0[k].toNat ∧ a0[k].toNat ≤ 57) := fun h => hd ⟨hlt, h⟩
          clear hd
          generalize hc : a0[k].toNat = c at h58 hnd
          by_cases h8 : k < 8
          · by_cases h48 : 48 ≤ c
            · have h57 : 57 < c := by omega
              clear hnd
              go_wp2
              all_goals (go_ret3; exact ⟨rfl, Drawn0.refl _⟩)
            · clear hnd
              go_wp2
              all_goals (go_ret3; exact ⟨rfl, Drawn0.refl _⟩)
          · clear hnd
            go_wp2
            all_goals (go_ret3; exact ⟨rfl, Drawn0.refl _⟩)
      · obtain ⟨rfl, rfl, rfl⟩ := hbad (by
          rintro ⟨_, h, _⟩
          obtain ⟨hh, _⟩ := List.getElem?_eq_some_iff.1 h
          rw [← Lib.size_eq] at hh
          exact hlt hh)
        clear hbad hF hstop HR hd
        have hkk : (k : Int) = a0.size := by omega
        have hkq : ((k : Int) == (a0.size : Int)) = true := by rw [hkk]; simp
        clear hkk
        by_cases h0 : k = 0
        · subst h0
          go_wp2
          all_goals (go_ret3; exact ⟨rfl, Drawn0.refl _⟩)
        · go_wp2
          all_goals (go_ret3; exact ⟨rfl, Drawn0.refl _⟩)
end Go.Proofs.YtjpihfjgomoijaaDoor.K
end
section
-- Written by a program of this session (wip/tools/pr.py), over the kit's printer; functions named in the texts imported below are given by hand.
namespace Go.Proofs.YtjpihfjgomoijaaDoor.P
open Go.RowKit Go.Proofs.YtjpihfjgomoijaaDoor.K Go.Proofs.YtjpihfjgomoijaaDoorW.PrintWords Go.Proofs.YtjpihfjgomoijaaDoorW.PrintLast Go.Proofs.YtjpihfjgomoijaaDoorW.PrintMore
attribute [local go_sem] max2_int min2_int max_two min_two max_three min_three max_four min_four   -- for this text's walks alone
def errW : Option Int → Value
  | none => .nilIface
  | some c => .iface 0 (.int .i64 c)
theorem errW_none : errW none = .nilIface := rfl
theorem errW_some (c : Int) : errW (some c) = .iface 0 (.int .i64 c) := rfl
theorem info9 : (Tryd.prog.info? 9).map (fun i => (i.zero, i.size, i.bytes)) = some (some (.string ⟨#[]⟩), 1, 16) := by kernel_rfl
theorem info54 : (Tryd.prog.info? 54).map (fun i => (i.zero, i.size, i.bytes)) = some (some (.agg #[(.int .i64 0), (.string ⟨#[]⟩)]), 2, 24) := by kernel_rfl
-- the values' own types
/-! #### struct type 54 -/
structure S54 where
  f0 : Int
  f1 : ByteArray
def z54 : S54 := ⟨(0 : Int), (⟨#[]⟩ : ByteArray)⟩
def k54 : Kd S54 := Kd.iso (Kd.pair (Kd.int .i64) Kd.string) (fun x : S54 => (x.f0, x.f1))
theorem k54_heap : Kd.Heap k54 := Kd.heap_iso _ (Kd.heap_pair (Kd.heap_int .i64) Kd.heap_string)
theorem k54_open {w : World} {x : S54} {cs : List Value} (h : k54.K w x cs) : cs = [.int .i64 x.f0, .string x.f1] := by
  obtain ⟨_, _, rfl, rfl, rfl⟩ := h
  exact rfl
theorem k54_openM {w : World} {base : Nat} {ok : Nat → Prop} {x : S54} {cs : List Value} (h : k54.M w base ok x cs) : cs = [.int .i64 x.f0, .string x.f1] := by
  obtain ⟨_, _, rfl, rfl, rfl⟩ := h
  exact rfl
theorem k54_mk (w : World) (x : S54)  : k54.K w x [.int .i64 x.f0, .string x.f1] := ⟨[.int .i64 x.f0], [.string x.f1], rfl, rfl, rfl⟩
theorem k54_mkM (w : World) (base : Nat) (ok : Nat → Prop) (x : S54)  : k54.M w base ok x [.int .i64 x.f0, .string x.f1] := ⟨[.int .i64 x.f0], [.string x.f1], rfl, rfl, rfl⟩
theorem k54_mkF (W : World) (ok : Nat → Prop) (x : S54) : Kd.FK k54 W ok x [.int .i64 x.f0, .string x.f1] := fun W2 _ => k54_mk W2 x
def rd_T54 (xs : List S54) (i : Int) : S54 := xs.getD i.toNat z54
theorem at_T54 {w : World} {A : Option Addr} {n : Nat} {xs : List S54} (h : Kd.C k54 w A n xs) (i : Int) (h0 : 0 ≤ i) (h1 : i < n) : ∃ ad , A = some ad ∧ w.cell? (ad.add (i.toNat * 2)) = some (.int .i64 (rd_T54 xs i).f0) ∧ w.cell? ⟨(ad.add (i.toNat * 2)).block, (ad.add (i.toNat * 2)).off + 1, none⟩ = some (.string (rd_T54 xs i).f1) := by
  obtain ⟨ad, c, e, _, hK, hc0⟩ := Kd.C_get h z54 i h0 h1
  have hc : ∀ j u, c[j]? = some u → w.cell? (ad.add (i.toNat * 2 + j)) = some u := hc0
  obtain rfl := k54_open hK
  exact ⟨ad, e, hc 0 _ rfl, by rw [← add_field _ _ 1 (by omega)]; exact hc 1 _ rfl⟩
end Go.Proofs.YtjpihfjgomoijaaDoor.P
end
section
-- Written by a program of this session (wip/tools/pr.py), over the kit's printer; functions named in the texts imported below are given by hand.
namespace Go.Proofs.YtjpihfjgomoijaaDoor.P
open Go.RowKit Go.Proofs.YtjpihfjgomoijaaDoor.K Go.Proofs.YtjpihfjgomoijaaDoorW.PrintWords Go.Proofs.YtjpihfjgomoijaaDoorW.PrintLast Go.Proofs.YtjpihfjgomoijaaDoorW.PrintMore
attribute [local go_sem] max2_int min2_int max_two min_two max_three min_three max_four min_four   -- for this text's walks alone
/-! ### knot_First: function 45 -/
def knot_First.f (a0 : ByteArray) : Option (ByteArray × ByteArray × Int) := if 0 ≤ (mn (a0.size : Int) 1048576) then (if (mn (a0.size : Int) 1048576) ≤ (a0.size : Int) then ((strings_Cut.f (a0.extract 0 ((mn (a0.size : Int) 1048576) : Int).toNat) (⟨#[58]⟩ : ByteArray)).bind fun bt109 => ((knot_Int.f bt109.1).bind fun bt112 => (if bt109.2.2 = true then (if bt112.2 = 0 then (if bt112.1 < 0 then (some ((⟨#[]⟩ : ByteArray), a0, 10)) else (if bt112.1 ≥ (bt109.2.1.size : Int) then (some ((⟨#[]⟩ : ByteArray), a0, 10)) else (if 0 ≤ bt112.1 then (if bt112.1 < (bt109.2.1.size : Int) then (if (bt bt109.2.1 bt112.1) = 44 then (if bt112.1 ≤ (bt109.2.1.size : Int) then (if 0 ≤ (wrap64 ((wrap64 ((wrap64 ((bt109.1.size : Int) + 1)) + bt112.1)) + 1)) then (if (wrap64 ((wrap64 ((wrap64 ((bt109.1.size : Int) + 1)) + bt112.1)) + 1)) ≤ (a0.size : Int) then (some (bt109.2.1.extract 0 (bt112.1 : Int).toNat, a0.extract ((wrap64 ((wrap64 ((wrap64 ((bt109.1.size : Int) + 1)) + bt112.1)) + 1)) : Int).toNat a0.size, 0)) else (none)) else (none)) else (none)) else (some ((⟨#[]⟩ : ByteArray), a0, 10))) else (none)) else (none)))) else (some ((⟨#[]⟩ : ByteArray), a0, 10))) else (some ((⟨#[]⟩ : ByteArray), a0, 10))))) else (none)) else (none)
set_option maxHeartbeats 8000000 in
set_option maxRecDepth 100000 in
theorem knot_First.calls (a0 : ByteArray) (r1 : ByteArray) (r2 : ByteArray) (r3 : Int) (w : World) (hG : TheG w) (h : knot_First.f a0 = some (r1, r2, r3)) :
    Calls Tryd.prog 45 #[.string a0] w fun e w' => e = .returned (.tuple #[.string r1, .string r2, .int .i64 r3]) ∧ Below w.heap.size w w' := by
  have HB := Az.mk (Below.refl w.heap.size w)
  have H : (if 0 ≤ (mn (a0.size : Int) 1048576) then (if (mn (a0.size : Int) 1048576) ≤ (a0.size : Int) then ((strings_Cut.f (a0.extract 0 ((mn (a0.size : Int) 1048576) : Int).toNat) (⟨#[58]⟩ : ByteArray)).bind fun bt109 => ((knot_Int.f bt109.1).bind fun bt112 => (if bt109.2.2 = true then (if bt112.2 = 0 then (if bt112.1 < 0 then (some ((⟨#[]⟩ : ByteArray), a0, 10)) else (if bt112.1 ≥ (bt109.2.1.size : Int) then (some ((⟨#[]⟩ : ByteArray), a0, 10)) else (if 0 ≤ bt112.1 then (if bt112.1 < (bt109.2.1.size : Int) then (if (bt bt109.2.1 bt112.1) = 44 then (if bt112.1 ≤ (bt109.2.1.size : Int) then (if 0 ≤ (wrap64 ((wrap64 ((wrap64 ((bt109.1.size : Int) + 1)) + bt112.1)) + 1)) then (if (wrap64 ((wrap64 ((wrap64 ((bt109.1.size : Int) + 1)) + bt112.1)) + 1)) ≤ (a0.size : Int) then (some (bt109.2.1.extract 0 (bt112.1 : Int).toNat, a0.extract ((wrap64 ((wrap64 ((wrap64 ((bt109.1.size : Int) + 1)) + bt112.1)) + 1)) : Int).toNat a0.size, 0)) else (none)) else (none)) else (none)) else (some ((⟨#[]⟩ : ByteArray), a0, 10))) else (none)) else (none)))) else (some ((⟨#[]⟩ : ByteArray), a0, 10))) else (some ((⟨#[]⟩ : ByteArray), a0, 10))))) else (none)) else (none)) = some (r1, r2, r3) := h
  clear h
  obtain ⟨ji2, hji2⟩ : ∃ j_ : Int, (mn (a0.size : Int) 1048576) = j_ := ⟨_, rfl⟩
  replace H : (if 0 ≤ (ji2) then (if (ji2) ≤ (a0.size : Int) then ((strings_Cut.f (a0.extract 0 ((ji2) : Int).toNat) (⟨#[58]⟩ : ByteArray)).bind fun bt109 => ((knot_Int.f bt109.1).bind fun bt112 => (if bt109.2.2 = true then (if bt112.2 = 0 then (if bt112.1 < 0 then (some ((⟨#[]⟩ : ByteArray), a0, 10)) else (if bt112.1 ≥ (bt109.2.1.size : Int) then (some ((⟨#[]⟩ : ByteArray), a0, 10)) else (if 0 ≤ bt112.1 then (if bt112.1 < (bt109.2.1.size : Int) then (if (bt bt109.2.1 bt112.1) = 44 then (if bt112.1 ≤ (bt109.2.1.size : Int) then (if 0 ≤ (wrap64 ((wrap64 ((wrap64 ((bt109.1.size : Int) + 1)) + bt112.1)) + 1)) then (if (wrap64 ((wrap64 ((wrap64 ((bt109.1.size : Int) + 1)) + bt112.1)) + 1)) ≤ (a0.size : Int) then (some (bt109.2.1.extract 0 (bt112.1 : Int).toNat, a0.extract ((wrap64 ((wrap64 ((wrap64 ((bt109.1.size : Int) + 1)) + bt112.1)) + 1)) : Int).toNat a0.size, 0)) else (none)) else (none)) else (none)) else (some ((⟨#[]⟩ : ByteArray), a0, 10))) else (none)) else (none)))) else (some ((⟨#[]⟩ : ByteArray), a0, 10))) else (some ((⟨#[]⟩ : ByteArray), a0, 10))))) else (none)) else (none)) = some (r1, r2, r3) := by first | (rw [hji2] at H; exact H) | (simp only [hji2] at H ⊢; exact H)
  (try (have hji2h : ji2 ≤ 1048576 := by (rw [← hji2]; unfold mn; (repeat' split) <;> omega)))
  (try (have hji2g : ji2 ≤ 64 := by omega))
  (try (have hji2l : 0 ≤ ji2 := by (rw [← hji2]; unfold mn; (repeat' split) <;> omega)))
  (try (have hji2m : 0 ≤ ji2 := by omega))
  have hji2_ : (if 1048576 < (a0.size : Int) then 1048576 else (a0.size : Int)) = ji2 := hji2
  by_cases c3 : 0 ≤ (ji2)
  · rw [if_pos c3] at H
    have c3b0 := eq_true c3
    have c3b1 : decide (0 ≤ (ji2)) = true := decide_eq_true c3
    clear c3
    by_cases c4 : (ji2) ≤ (a0.size : Int)
    · rw [if_pos c4] at H
      have c4b0 := eq_true c4
      have c4b1 : decide ((ji2) ≤ (a0.size : Int)) = true := decide_eq_true c4
      clear c4
      replace H := Option.bind_eq_some_iff.mp H
      obtain ⟨⟨t109, t110, t111⟩, A50, H⟩ := H
      replace H : ((knot_Int.f t109).bind fun bt112 => (if t111 = true then (if bt112.2 = 0 then (if bt112.1 < 0 then (some ((⟨#[]⟩ : ByteArray), a0, 10)) else (if bt112.1 ≥ (t110.size : Int) then (some ((⟨#[]⟩ : ByteArray), a0, 10)) else (if 0 ≤ bt112.1 then (if bt112.1 < (t110.size : Int) then (if (bt t110 bt112.1) = 44 then (if bt112.1 ≤ (t110.size : Int) then (if 0 ≤ (wrap64 ((wrap64 ((wrap64 ((t109.size : Int) + 1)) + bt112.1)) + 1)) then (if (wrap64 ((wrap64 ((wrap64 ((t109.size : Int) + 1)) + bt112.1)) + 1)) ≤ (a0.size : Int) then (some (t110.extract 0 (bt112.1 : Int).toNat, a0.extract ((wrap64 ((wrap64 ((wrap64 ((t109.size : Int) + 1)) + bt112.1)) + 1)) : Int).toNat a0.size, 0)) else (none)) else (none)) else (none)) else (some ((⟨#[]⟩ : ByteArray), a0, 10))) else (none)) else (none)))) else (some ((⟨#[]⟩ : ByteArray), a0, 10))) else (some ((⟨#[]⟩ : ByteArray), a0, 10)))) = some (r1, r2, r3) := H
      have A5 := Az.mk A50
      clear A50
      replace H := Option.bind_eq_some_iff.mp H
      obtain ⟨⟨t112, t113⟩, A60, H⟩ := H
      replace H : (if t111 = true then (if t113 = 0 then (if t112 < 0 then (some ((⟨#[]⟩ : ByteArray), a0, 10)) else (if t112 ≥ (t110.size : Int) then (some ((⟨#[]⟩ : ByteArray), a0, 10)) else (if 0 ≤ t112 then (if t112 < (t110.size : Int) then (if (bt t110 t112) = 44 then (if t112 ≤ (t110.size : Int) then (if 0 ≤ (wrap64 ((wrap64 ((wrap64 ((t109.size : Int) + 1)) + t112)) + 1)) then (if (wrap64 ((wrap64 ((wrap64 ((t109.size : Int) + 1)) + t112)) + 1)) ≤ (a0.size : Int) then (some (t110.extract 0 (t112 : Int).toNat, a0.extract ((wrap64 ((wrap64 ((wrap64 ((t109.size : Int) + 1)) + t112)) + 1)) : Int).toNat a0.size, 0)) else (none)) else (none)) else (none)) else (some ((⟨#[]⟩ : ByteArray), a0, 10))) else (none)) else (none)))) else (some ((⟨#[]⟩ : ByteArray), a0, 10))) else (some ((⟨#[]⟩ : ByteArray), a0, 10))) = some (r1, r2, r3) := H
      have A6 := Az.mk A60
      clear A60
      by_cases c7 : t111 = true
      · subst c7
        have H1 : (if t113 = 0 then (if t112 < 0 then (some ((⟨#[]⟩ : ByteArray), a0, 10)) else (if t112 ≥ (t110.size : Int) then (some ((⟨#[]⟩ : ByteArray), a0, 10)) else (if 0 ≤ t112 then (if t112 < (t110.size : Int) then (if (bt t110 t112) = 44 then (if t112 ≤ (t110.size : Int) then (if 0 ≤ (wrap64 ((wrap64 ((wrap64 ((t109.size : Int) + 1)) + t112)) + 1)) then (if (wrap64 ((wrap64 ((wrap64 ((t109.size : Int) + 1)) + t112)) + 1)) ≤ (a0.size : Int) then (some (t110.extract 0 (t112 : Int).toNat, a0.extract ((wrap64 ((wrap64 ((wrap64 ((t109.size : Int) + 1)) + t112)) + 1)) : Int).toNat a0.size, 0)) else (none)) else (none)) else (none)) else (some ((⟨#[]⟩ : ByteArray), a0, 10))) else (none)) else (none)))) else (some ((⟨#[]⟩ : ByteArray), a0, 10))) = some (r1, r2, r3) := by rw [if_pos rfl] at H; exact H
        clear H
        have H := H1
        clear H1
        by_cases c8 : t113 = 0
        · rw [if_pos c8] at H
          have c8b0 : (t113 == 0) = true := beq_iff_eq.mpr c8
          have c8b1 : (t113 != 0) = false := bne_eq_false_iff_eq.mpr c8
          clear c8
          by_cases c9 : t112 < 0
          · rw [if_pos c9] at H
            have c9b0 : decide (t112 < 0) = true := decide_eq_true c9
            clear c9
            simp only [Option.some.injEq, Prod.mk.injEq] at H
            obtain ⟨rfl, rfl, rfl⟩ := H
            go_enter Tryd.func45, Tryd.ntmps45
            go_wp2_with (first | (go_at_call 54; (with_reducible refine (strings_Cut.calls (a0.extract 0 ((ji2) : Int).toNat) (⟨#[58]⟩ : ByteArray) t109 t110 true _ ?side1 A5.out).mono ?_); (case side1 => exact hG.below (by repeat (first | (with_reducible first | exact HB.out | apply pbA | apply pbN | apply pb1) | exact HB.out))); rintro e w' ⟨rfl, ⟨nd, rfl⟩⟩; (try first | exact ⟨rfl, _, World.drewN_drewN _ _ _⟩ | exact ⟨rfl, _, Eq.trans (World.drewN_drewN _ _ _) (congrArg (World.drewN _) (Nat.add_assoc _ _ _))⟩)) | (go_at_call 36; (with_reducible refine (knot_Int.calls t109 t112 t113 _ ?side1 A6.out).mono ?_); (case side1 => exact hG.below (by repeat (first | (with_reducible first | exact HB.out | apply pbA | apply pbN | apply pb1) | exact HB.out))); rintro e w10 ⟨rfl, hb⟩; have n0_ := Az.mk (pbT (by repeat (first | (with_reducible first | exact HB.out | apply pbA | apply pbN | apply pb1) | exact HB.out)) hb); clear HB; have HB := n0_; clear n0_; (try clear hb); (try clear hb2); (try clear hk); (try clear hi)))
            repeat (go_quiet (first | (go_at_call 54; (with_reducible refine (strings_Cut.calls (a0.extract 0 ((ji2) : Int).toNat) (⟨#[58]⟩ : ByteArray) t109 t110 true _ ?side1 A5.out).mono ?_); (case side1 => exact hG.below (by repeat (first | (with_reducible first | exact HB.out | apply pbA | apply pbN | apply pb1) | exact HB.out))); rintro e w' ⟨rfl, ⟨nd, rfl⟩⟩; (try first | exact ⟨rfl, _, World.drewN_drewN _ _ _⟩ | exact ⟨rfl, _, Eq.trans (World.drewN_drewN _ _ _) (congrArg (World.drewN _) (Nat.add_assoc _ _ _))⟩)) | (go_at_call 36; (with_reducible refine (knot_Int.calls t109 t112 t113 _ ?side1 A6.out).mono ?_); (case side1 => exact hG.below (by repeat (first | (with_reducible first | exact HB.out | apply pbA | apply pbN | apply pb1) | exact HB.out))); rintro e w10 ⟨rfl, hb⟩; have n0_ := Az.mk (pbT (by repeat (first | (with_reducible first | exact HB.out | apply pbA | apply pbN | apply pb1) | exact HB.out)) hb); clear HB; have HB := n0_; clear n0_; (try clear hb); (try clear hb2); (try clear hk); (try clear hi))); try go_wp2_with (first | (go_at_call 54; (with_reducible refine (strings_Cut.calls (a0.extract 0 ((ji2) : Int).toNat) (⟨#[58]⟩ : ByteArray) t109 t110 true _ ?side1 A5.out).mono ?_); (case side1 => exact hG.below (by repeat (first | (with_reducible first | exact HB.out | apply pbA | apply pbN | apply pb1) | exact HB.out))); rintro e w' ⟨rfl, ⟨nd, rfl⟩⟩; (try first | exact ⟨rfl, _, World.drewN_drewN _ _ _⟩ | exact ⟨rfl, _, Eq.trans (World.drewN_drewN _ _ _) (congrArg (World.drewN _) (Nat.add_assoc _ _ _))⟩)) | (go_at_call 36; (with_reducible refine (knot_Int.calls t109 t112 t113 _ ?side1 A6.out).mono ?_); (case side1 => exact hG.below (by repeat (first | (with_reducible first | exact HB.out | apply pbA | apply pbN | apply pb1) | exact HB.out))); rintro e w10 ⟨rfl, hb⟩; have n0_ := Az.mk (pbT (by repeat (first | (with_reducible first | exact HB.out | apply pbA | apply pbN | apply pb1) | exact HB.out)) hb); clear HB; have HB := n0_; clear n0_; (try clear hb); (try clear hb2); (try clear hk); (try clear hi))))
            go_ret3
            exact ⟨by first | rfl | (simp [errW_none, errW_some] <;> rfl) | (simp only [← hji2]; first | rfl | (simp [errW_none, errW_some] <;> rfl)) | (simp [*, errW_none, errW_some] <;> rfl), by repeat (first | (with_reducible first | exact HB.out | apply pbA | apply pbN | apply pb1) | exact HB.out)⟩
          · rw [if_neg c9] at H
            have c9b0 : decide (t112 < 0) = false := decide_eq_false c9
            clear c9
            by_cases c11 : t112 ≥ (t110.size : Int)
            · rw [if_pos c11] at H
              have c11b0 : decide ((t110.size : Int) ≤ t112) = true := decide_eq_true c11
              clear c11
              simp only [Option.some.injEq, Prod.mk.injEq] at H
              obtain ⟨rfl, rfl, rfl⟩ := H
              go_enter Tryd.func45, Tryd.ntmps45
              go_wp2_with (first | (go_at_call 54; (with_reducible refine (strings_Cut.calls (a0.extract 0 ((ji2) : Int).toNat) (⟨#[58]⟩ : ByteArray) t109 t110 true _ ?side1 A5.out).mono ?_); (case side1 => exact hG.below (by repeat (first | (with_reducible first | exact HB.out | apply pbA | apply pbN | apply pb1) | exact HB.out))); rintro e w' ⟨rfl, ⟨nd, rfl⟩⟩; (try first | exact ⟨rfl, _, World.drewN_drewN _ _ _⟩ | exact ⟨rfl, _, Eq.trans (World.drewN_drewN _ _ _) (congrArg (World.drewN _) (Nat.add_assoc _ _ _))⟩)) | (go_at_call 36; (with_reducible refine (knot_Int.calls t109 t112 t113 _ ?side1 A6.out).mono ?_); (case side1 => exact hG.below (by repeat (first | (with_reducible first | exact HB.out | apply pbA | apply pbN | apply pb1) | exact HB.out))); rintro e w12 ⟨rfl, hb⟩; have n0_ := Az.mk (pbT (by repeat (first | (with_reducible first | exact HB.out | apply pbA | apply pbN | apply pb1) | exact HB.out)) hb); clear HB; have HB := n0_; clear n0_; (try clear hb); (try clear hb2); (try clear hk); (try clear hi)))
              repeat (go_quiet (first | (go_at_call 54; (with_reducible refine (strings_Cut.calls (a0.extract 0 ((ji2) : Int).toNat) (⟨#[58]⟩ : ByteArray) t109 t110 true _ ?side1 A5.out).mono ?_); (case side1 => exact hG.below (by repeat (first | (with_reducible first | exact HB.out | apply pbA | apply pbN | apply pb1) | exact HB.out))); rintro e w' ⟨rfl, ⟨nd, rfl⟩⟩; (try first | exact ⟨rfl, _, World.drewN_drewN _ _ _⟩ | exact ⟨rfl, _, Eq.trans (World.drewN_drewN _ _ _) (congrArg (World.drewN _) (Nat.add_assoc _ _ _))⟩)) | (go_at_call 36; (with_reducible refine (knot_Int.calls t109 t112 t113 _ ?side1 A6.out).mono ?_); (case side1 => exact hG.below (by repeat (first | (with_reducible first | exact HB.out | apply pbA | apply pbN | apply pb1) | exact HB.out))); rintro e w12 ⟨rfl, hb⟩; have n0_ := Az.mk (pbT (by repeat (first | (with_reducible first | exact HB.out | apply pbA | apply pbN | apply pb1) | exact HB.out)) hb); clear HB; have HB := n0_; clear n0_; (try clear hb); (try clear hb2); (try clear hk); (try clear hi))); try go_wp2_with (first | (go_at_call 54; (with_reducible refine (strings_Cut.calls (a0.extract 0 ((ji2) : Int).toNat) (⟨#[58]⟩ : ByteArray) t109 t110 true _ ?side1 A5.out).mono ?_); (case side1 => exact hG.below (by repeat (first | (with_reducible first | exact HB.out | apply pbA | apply pbN | apply pb1) | exact HB.out))); rintro e w' ⟨rfl, ⟨nd, rfl⟩⟩; (try first | exact ⟨rfl, _, World.drewN_drewN _ _ _⟩ | exact ⟨rfl, _, Eq.trans (World.drewN_drewN _ _ _) (congrArg (World.drewN _) (Nat.add_assoc _ _ _))⟩)) | (go_at_call 36; (with_reducible refine (knot_Int.calls t109 t112 t113 _ ?side1 A6.out).mono ?_); (case side1 => exact hG.below (by repeat (first | (with_reducible first | exact HB.out | apply pbA | apply pbN | apply pb1) | exact HB.out))); rintro e w12 ⟨rfl, hb⟩; have n0_ := Az.mk (pbT (by repeat (first | (with_reducible first | exact HB.out | apply pbA | apply pbN | apply pb1) | exact HB.out)) hb); clear HB; have HB := n0_; clear n0_; (try clear hb); (try clear hb2); (try clear hk); (try clear hi))))
              go_ret3
              exact ⟨by first | rfl | (simp [errW_none, errW_some] <;> rfl) | (simp only [← hji2]; first | rfl | (simp [errW_none, errW_some] <;> rfl)) | (simp [*, errW_none, errW_some] <;> rfl), by repeat (first | (with_reducible first | exact HB.out | apply pbA | apply pbN | apply pb1) | exact HB.out)⟩
            · rw [if_neg c11] at H
              have c11b0 : decide ((t110.size : Int) ≤ t112) = false := decide_eq_false c11
              clear c11
              by_cases c13 : 0 ≤ t112
              · rw [if_pos c13] at H
                have c13b0 : decide (0 ≤ t112) = true := decide_eq_true c13
                clear c13
                by_cases c14 : t112 < (t110.size : Int)
                · rw [if_pos c14] at H
                  have c14b0 : decide (t112 < (t110.size : Int)) = true := decide_eq_true c14
                  clear c14
                  by_cases c16 : (bt t110 t112) = 44
                  · rw [if_pos c16] at H
                    have c16b0 : ((bt t110 t112) == 44) = true := beq_iff_eq.mpr c16
                    have c16b1 : ((bt t110 t112) != 44) = false := bne_eq_false_iff_eq.mpr c16
                    clear c16
                    have c17b0 := eq_true (of_decide_eq_true (by first | (with_reducible assumption) | assumption) : 0 ≤ t112)
                    by_cases c18 : t112 ≤ (t110.size : Int)
                    · rw [if_pos c18] at H
                      have c18b0 := eq_true c18
                      have c18b1 : decide (t112 ≤ (t110.size : Int)) = true := decide_eq_true c18
                      clear c18
                      obtain ⟨ji19, hji19⟩ : ∃ j_ : Int, (wrap64 ((wrap64 ((wrap64 ((t109.size : Int) + 1)) + t112)) + 1)) = j_ := ⟨_, rfl⟩
                      replace H : (if 0 ≤ (ji19) then (if (ji19) ≤ (a0.size : Int) then (some (t110.extract 0 (t112 : Int).toNat, a0.extract ((ji19) : Int).toNat a0.size, 0)) else (none)) else (none)) = some (r1, r2, r3) := by first | (rw [hji19] at H; exact H) | (simp only [hji19] at H ⊢; exact H)
                      (try rw [hji19] at A5)
                      (try rw [hji19] at A6)
                      have hji19w : (IntKind.i64.wrap ((wrap64 ((wrap64 ((t109.size : Int) + 1)) + t112)) + 1)) = ji19 := (i64_w _).trans hji19
                      by_cases c20 : 0 ≤ (ji19)
                      · rw [if_pos c20] at H
                        have c20b0 := eq_true c20
                        have c20b1 : decide (0 ≤ (ji19)) = true := decide_eq_true c20
                        clear c20
                        by_cases c21 : (ji19) ≤ (a0.size : Int)
                        · rw [if_pos c21] at H
                          have c21b0 := eq_true c21
                          have c21b1 : decide ((ji19) ≤ (a0.size : Int)) = true := decide_eq_true c21
                          clear c21
                          simp only [Option.some.injEq, Prod.mk.injEq] at H
                          obtain ⟨rfl, rfl, rfl⟩ := H
                          go_enter Tryd.func45, Tryd.ntmps45
                          go_wp2_with (first | (go_at_call 54; (with_reducible refine (strings_Cut.calls (a0.extract 0 ((ji2) : Int).toNat) (⟨#[58]⟩ : ByteArray) t109 t110 true _ ?side1 A5.out).mono ?_); (case side1 => exact hG.below (by repeat (first | (with_reducible first | exact HB.out | apply pbA | apply pbN | apply pb1) | exact HB.out))); rintro e w' ⟨rfl, ⟨nd, rfl⟩⟩; (try first | exact ⟨rfl, _, World.drewN_drewN _ _ _⟩ | exact ⟨rfl, _, Eq.trans (World.drewN_drewN _ _ _) (congrArg (World.drewN _) (Nat.add_assoc _ _ _))⟩)) | (go_at_call 36; (with_reducible refine (knot_Int.calls t109 t112 t113 _ ?side1 A6.out).mono ?_); (case side1 => exact hG.below (by repeat (first | (with_reducible first | exact HB.out | apply pbA | apply pbN | apply pb1) | exact HB.out))); rintro e w22 ⟨rfl, hb⟩; have n0_ := Az.mk (pbT (by repeat (first | (with_reducible first | exact HB.out | apply pbA | apply pbN | apply pb1) | exact HB.out)) hb); clear HB; have HB := n0_; clear n0_; (try clear hb); (try clear hb2); (try clear hk); (try clear hi); have p15 : 0 ≤ (t112 : Int) := of_decide_eq_true (by first | (with_reducible assumption) | assumption); have q15 : t112 < (t110.size : Int) := of_decide_eq_true (by first | (with_reducible assumption) | assumption); have hx15 := bt_at t110 t112; replace p15 := eq_true p15; replace q15 := eq_true q15))
                          repeat (go_quiet (first | (go_at_call 54; (with_reducible refine (strings_Cut.calls (a0.extract 0 ((ji2) : Int).toNat) (⟨#[58]⟩ : ByteArray) t109 t110 true _ ?side1 A5.out).mono ?_); (case side1 => exact hG.below (by repeat (first | (with_reducible first | exact HB.out | apply pbA | apply pbN | apply pb1) | exact HB.out))); rintro e w' ⟨rfl, ⟨nd, rfl⟩⟩; (try first | exact ⟨rfl, _, World.drewN_drewN _ _ _⟩ | exact ⟨rfl, _, Eq.trans (World.drewN_drewN _ _ _) (congrArg (World.drewN _) (Nat.add_assoc _ _ _))⟩)) | (go_at_call 36; (with_reducible refine (knot_Int.calls t109 t112 t113 _ ?side1 A6.out).mono ?_); (case side1 => exact hG.below (by repeat (first | (with_reducible first | exact HB.out | apply pbA | apply pbN | apply pb1) | exact HB.out))); rintro e w22 ⟨rfl, hb⟩; have n0_ := Az.mk (pbT (by repeat (first | (with_reducible first | exact HB.out | apply pbA | apply pbN | apply pb1) | exact HB.out)) hb); clear HB; have HB := n0_; clear n0_; (try clear hb); (try clear hb2); (try clear hk); (try clear hi); have p15 : 0 ≤ (t112 : Int) := of_decide_eq_true (by first | (with_reducible assumption) | assumption); have q15 : t112 < (t110.size : Int) := of_decide_eq_true (by first | (with_reducible assumption) | assumption); have hx15 := bt_at t110 t112; replace p15 := eq_true p15; replace q15 := eq_true q15)); try go_wp2_with (first | (go_at_call 54; (with_reducible refine (strings_Cut.calls (a0.extract 0 ((ji2) : Int).toNat) (⟨#[58]⟩ : ByteArray) t109 t110 true _ ?side1 A5.out).mono ?_); (case side1 => exact hG.below (by repeat (first | (with_reducible first | exact HB.out | apply pbA | apply pbN | apply pb1) | exact HB.out))); rintro e w' ⟨rfl, ⟨nd, rfl⟩⟩; (try first | exact ⟨rfl, _, World.drewN_drewN _ _ _⟩ | exact ⟨rfl, _, Eq.trans (World.drewN_drewN _ _ _) (congrArg (World.drewN _) (Nat.add_assoc _ _ _))⟩)) | (go_at_call 36; (with_reducible refine (knot_Int.calls t109 t112 t113 _ ?side1 A6.out).mono ?_); (case side1 => exact hG.below (by repeat (first | (with_reducible first | exact HB.out | apply pbA | apply pbN | apply pb1) | exact HB.out))); rintro e w22 ⟨rfl, hb⟩; have n0_ := Az.mk (pbT (by repeat (first | (with_reducible first | exact HB.out | apply pbA | apply pbN | apply pb1) | exact HB.out)) hb); clear HB; have HB := n0_; clear n0_; (try clear hb); (try clear hb2); (try clear hk); (try clear hi); have p15 : 0 ≤ (t112 : Int) := of_decide_eq_true (by first | (with_reducible assumption) | assumption); have q15 : t112 < (t110.size : Int) := of_decide_eq_true (by first | (with_reducible assumption) | assumption); have hx15 := bt_at t110 t112; replace p15 := eq_true p15; replace q15 := eq_true q15)))
                          go_ret3
                          exact ⟨by first | rfl | (simp [errW_none, errW_some] <;> rfl) | (simp only [← hji2, ← hji19]; first | rfl | (simp [errW_none, errW_some] <;> rfl)) | (simp [*, errW_none, errW_some] <;> rfl), by repeat (first | (with_reducible first | exact HB.out | apply pbA | apply pbN | apply pb1) | exact HB.out)⟩
                        · rw [if_neg c21] at H
                          exact absurd H (by simp)
                      · rw [if_neg c20] at H
                        exact absurd H (by simp)
                    · rw [if_neg c18] at H
                      exact absurd H (by simp)
                  · rw [if_neg c16] at H
                    have c16b0 : ((bt t110 t112) == 44) = false := beq_eq_false_iff_ne.mpr c16
                    have c16b1 : ((bt t110 t112) != 44) = true := bne_iff_ne.mpr c16
                    simp only [Option.some.injEq, Prod.mk.injEq] at H
                    obtain ⟨rfl, rfl, rfl⟩ := H
                    go_enter Tryd.func45, Tryd.ntmps45
                    go_wp2_with (first | (go_at_call 54; (with_reducible refine (strings_Cut.calls (a0.extract 0 ((ji2) : Int).toNat) (⟨#[58]⟩ : ByteArray) t109 t110 true _ ?side1 A5.out).mono ?_); (case side1 => exact hG.below (by repeat (first | (with_reducible first | exact HB.out | apply pbA | apply pbN | apply pb1) | exact HB.out))); rintro e w' ⟨rfl, ⟨nd, rfl⟩⟩; (try first | exact ⟨rfl, _, World.drewN_drewN _ _ _⟩ | exact ⟨rfl, _, Eq.trans (World.drewN_drewN _ _ _) (congrArg (World.drewN _) (Nat.add_assoc _ _ _))⟩)) | (go_at_call 36; (with_reducible refine (knot_Int.calls t109 t112 t113 _ ?side1 A6.out).mono ?_); (case side1 => exact hG.below (by repeat (first | (with_reducible first | exact HB.out | apply pbA | apply pbN | apply pb1) | exact HB.out))); rintro e w23 ⟨rfl, hb⟩; have n0_ := Az.mk (pbT (by repeat (first | (with_reducible first | exact HB.out | apply pbA | apply pbN | apply pb1) | exact HB.out)) hb); clear HB; have HB := n0_; clear n0_; (try clear hb); (try clear hb2); (try clear hk); (try clear hi); have p15 : 0 ≤ (t112 : Int) := of_decide_eq_true (by first | (with_reducible assumption) | assumption); have q15 : t112 < (t110.size : Int) := of_decide_eq_true (by first | (with_reducible assumption) | assumption); have hx15 := bt_at t110 t112; replace p15 := eq_true p15; replace q15 := eq_true q15))
                    repeat (go_quiet (first | (go_at_call 54; (with_reducible refine (strings_Cut.calls (a0.extract 0 ((ji2) : Int).toNat) (⟨#[58]⟩ : ByteArray) t109 t110 true _ ?side1 A5.out).mono ?_); (case side1 => exact hG.below (by repeat (first | (with_reducible first | exact HB.out | apply pbA | apply pbN | apply pb1) | exact HB.out))); rintro e w' ⟨rfl, ⟨nd, rfl⟩⟩; (try first | exact ⟨rfl, _, World.drewN_drewN _ _ _⟩ | exact ⟨rfl, _, Eq.trans (World.drewN_drewN _ _ _) (congrArg (World.drewN _) (Nat.add_assoc _ _ _))⟩)) | (go_at_call 36; (with_reducible refine (knot_Int.calls t109 t112 t113 _ ?side1 A6.out).mono ?_); (case side1 => exact hG.below (by repeat (first | (with_reducible first | exact HB.out | apply pbA | apply pbN | apply pb1) | exact HB.out))); rintro e w23 ⟨rfl, hb⟩; have n0_ := Az.mk (pbT (by repeat (first | (with_reducible first | exact HB.out | apply pbA | apply pbN | apply pb1) | exact HB.out)) hb); clear HB; have HB := n0_; clear n0_; (try clear hb); (try clear hb2); (try clear hk); (try clear hi); have p15 : 0 ≤ (t112 : Int) := of_decide_eq_true (by first | (with_reducible assumption) | assumption); have q15 : t112 < (t110.size : Int) := of_decide_eq_true (by first | (with_reducible assumption) | assumption); have hx15 := bt_at t110 t112; replace p15 := eq_true p15; replace q15 := eq_true q15)); try go_wp2_with (first | (go_at_call 54; (with_reducible refine (strings_Cut.calls (a0.extract 0 ((ji2) : Int).toNat) (⟨#[58]⟩ : ByteArray) t109 t110 true _ ?side1 A5.out).mono ?_); (case side1 => exact hG.below (by repeat (first | (with_reducible first | exact HB.out | apply pbA | apply pbN | apply pb1) | exact HB.out))); rintro e w' ⟨rfl, ⟨nd, rfl⟩⟩; (try first | exact ⟨rfl, _, World.drewN_drewN _ _ _⟩ | exact ⟨rfl, _, Eq.trans (World.drewN_drewN _ _ _) (congrArg (World.drewN _) (Nat.add_assoc _ _ _))⟩)) | (go_at_call 36; (with_reducible refine (knot_Int.calls t109 t112 t113 _ ?side1 A6.out).mono ?_); (case side1 => exact hG.below (by repeat (first | (with_reducible first | exact HB.out | apply pbA | apply pbN | apply pb1) | exact HB.out))); rintro e w23 ⟨rfl, hb⟩; have n0_ := Az.mk (pbT (by repeat (first | (with_reducible first | exact HB.out | apply pbA | apply pbN | apply pb1) | exact HB.out)) hb); clear HB; have HB := n0_; clear n0_; (try clear hb); (try clear hb2); (try clear hk); (try clear hi); have p15 : 0 ≤ (t112 : Int) := of_decide_eq_true (by first | (with_reducible assumption) | assumption); have q15 : t112 < (t110.size : Int) := of_decide_eq_true (by first | (with_reducible assumption) | assumption); have hx15 := bt_at t110 t112; replace p15 := eq_true p15; replace q15 := eq_true q15)))
                    go_ret3
                    exact ⟨by first | rfl | (simp [errW_none, errW_some] <;> rfl) | (simp only [← hji2]; first | rfl | (simp [errW_none, errW_some] <;> rfl)) | (simp [*, errW_none, errW_some] <;> rfl), by repeat (first | (with_reducible first | exact HB.out | apply pbA | apply pbN | apply pb1) | exact HB.out)⟩
                · rw [if_neg c14] at H
                  exact absurd H (by simp)
              · rw [if_neg c13] at H
                exact absurd H (by simp)
        · rw [if_neg c8] at H
          have c8b0 : (t113 == 0) = false := beq_eq_false_iff_ne.mpr c8
          have c8b1 : (t113 != 0) = true := bne_iff_ne.mpr c8
          simp only [Option.some.injEq, Prod.mk.injEq] at H
          obtain ⟨rfl, rfl, rfl⟩ := H
          go_enter Tryd.func45, Tryd.ntmps45
          go_wp2_with (first | (go_at_call 54; (with_reducible refine (strings_Cut.calls (a0.extract 0 ((ji2) : Int).toNat) (⟨#[58]⟩ : ByteArray) t109 t110 true _ ?side1 A5.out).mono ?_); (case side1 => exact hG.below (by repeat (first | (with_reducible first | exact HB.out | apply pbA | apply pbN | apply pb1) | exact HB.out))); rintro e w' ⟨rfl, ⟨nd, rfl⟩⟩; (try first | exact ⟨rfl, _, World.drewN_drewN _ _ _⟩ | exact ⟨rfl, _, Eq.trans (World.drewN_drewN _ _ _) (congrArg (World.drewN _) (Nat.add_assoc _ _ _))⟩)) | (go_at_call 36; (with_reducible refine (knot_Int.calls t109 t112 t113 _ ?side1 A6.out).mono ?_); (case side1 => exact hG.below (by repeat (first | (with_reducible first | exact HB.out | apply pbA | apply pbN | apply pb1) | exact HB.out))); rintro e w24 ⟨rfl, hb⟩; have n0_ := Az.mk (pbT (by repeat (first | (with_reducible first | exact HB.out | apply pbA | apply pbN | apply pb1) | exact HB.out)) hb); clear HB; have HB := n0_; clear n0_; (try clear hb); (try clear hb2); (try clear hk); (try clear hi)))
          repeat (go_quiet (first | (go_at_call 54; (with_reducible refine (strings_Cut.calls (a0.extract 0 ((ji2) : Int).toNat) (⟨#[58]⟩ : ByteArray) t109 t110 true _ ?side1 A5.out).mono ?_); (case side1 => exact hG.below (by repeat (first | (with_reducible first | exact HB.out | apply pbA | apply pbN | apply pb1) | exact HB.out))); rintro e w' ⟨rfl, ⟨nd, rfl⟩⟩; (try first | exact ⟨rfl, _, World.drewN_drewN _ _ _⟩ | exact ⟨rfl, _, Eq.trans (World.drewN_drewN _ _ _) (congrArg (World.drewN _) (Nat.add_assoc _ _ _))⟩)) | (go_at_call 36; (with_reducible refine (knot_Int.calls t109 t112 t113 _ ?side1 A6.out).mono ?_); (case side1 => exact hG.below (by repeat (first | (with_reducible first | exact HB.out | apply pbA | apply pbN | apply pb1) | exact HB.out))); rintro e w24 ⟨rfl, hb⟩; have n0_ := Az.mk (pbT (by repeat (first | (with_reducible first | exact HB.out | apply pbA | apply pbN | apply pb1) | exact HB.out)) hb); clear HB; have HB := n0_; clear n0_; (try clear hb); (try clear hb2); (try clear hk); (try clear hi))); try go_wp2_with (first | (go_at_call 54; (with_reducible refine (strings_Cut.calls (a0.extract 0 ((ji2) : Int).toNat) (⟨#[58]⟩ : ByteArray) t109 t110 true _ ?side1 A5.out).mono ?_); (case side1 => exact hG.below (by repeat (first | (with_reducible first | exact HB.out | apply pbA | apply pbN | apply pb1) | exact HB.out))); rintro e w' ⟨rfl, ⟨nd, rfl⟩⟩; (try first | exact ⟨rfl, _, World.drewN_drewN _ _ _⟩ | exact ⟨rfl, _, Eq.trans (World.drewN_drewN _ _ _) (congrArg (World.drewN _) (Nat.add_assoc _ _ _))⟩)) | (go_at_call 36; (with_reducible refine (knot_Int.calls t109 t112 t113 _ ?side1 A6.out).mono ?_); (case side1 => exact hG.below (by repeat (first | (with_reducible first | exact HB.out | apply pbA | apply pbN | apply pb1) | exact HB.out))); rintro e w24 ⟨rfl, hb⟩; have n0_ := Az.mk (pbT (by repeat (first | (with_reducible first | exact HB.out | apply pbA | apply pbN | apply pb1) | exact HB.out)) hb); clear HB; have HB := n0_; clear n0_; (try clear hb); (try clear hb2); (try clear hk); (try clear hi))))
          go_ret3
          exact ⟨by first | rfl | (simp [errW_none, errW_some] <;> rfl) | (simp only [← hji2]; first | rfl | (simp [errW_none, errW_some] <;> rfl)) | (simp [*, errW_none, errW_some] <;> rfl), by repeat (first | (with_reducible first | exact HB.out | apply pbA | apply pbN | apply pb1) | exact HB.out)⟩
      · replace c7 := Bool.eq_false_iff.mpr c7
        subst c7
        have H1 : (some ((⟨#[]⟩ : ByteArray), a0, 10)) = some (r1, r2, r3) := by rw [if_neg (show ¬ (false = true) by decide)] at H; exact H
        clear H
        have H := H1
        clear H1
        simp only [Option.some.injEq, Prod.mk.injEq] at H
        obtain ⟨rfl, rfl, rfl⟩ := H
        go_enter Tryd.func45, Tryd.ntmps45
        go_wp2_with (first | (go_at_call 54; (with_reducible refine (strings_Cut.calls (a0.extract 0 ((ji2) : Int).toNat) (⟨#[58]⟩ : ByteArray) t109 t110 false _ ?side1 A5.out).mono ?_); (case side1 => exact hG.below (by repeat (first | (with_reducible first | exact HB.out | apply pbA | apply pbN | apply pb1) | exact HB.out))); rintro e w' ⟨rfl, ⟨nd, rfl⟩⟩; (try first | exact ⟨rfl, _, World.drewN_drewN _ _ _⟩ | exact ⟨rfl, _, Eq.trans (World.drewN_drewN _ _ _) (congrArg (World.drewN _) (Nat.add_assoc _ _ _))⟩)) | (go_at_call 36; (with_reducible refine (knot_Int.calls t109 t112 t113 _ ?side1 A6.out).mono ?_); (case side1 => exact hG.below (by repeat (first | (with_reducible first | exact HB.out | apply pbA | apply pbN | apply pb1) | exact HB.out))); rintro e w25 ⟨rfl, hb⟩; have n0_ := Az.mk (pbT (by repeat (first | (with_reducible first | exact HB.out | apply pbA | apply pbN | apply pb1) | exact HB.out)) hb); clear HB; have HB := n0_; clear n0_; (try clear hb); (try clear hb2); (try clear hk); (try clear hi)))
        repeat (go_quiet (first | (go_at_call 54; (with_reducible refine (strings_Cut.calls (a0.extract 0 ((ji2) : Int).toNat) (⟨#[58]⟩ : ByteArray) t109 t110 false _ ?side1 A5.out).mono ?_); (case side1 => exact hG.below (by repeat (first | (with_reducible first | exact HB.out | apply pbA | apply pbN | apply pb1) | exact HB.out))); rintro e w' ⟨rfl, ⟨nd, rfl⟩⟩; (try first | exact ⟨rfl, _, World.drewN_drewN _ _ _⟩ | exact ⟨rfl, _, Eq.trans (World.drewN_drewN _ _ _) (congrArg (World.drewN _) (Nat.add_assoc _ _ _))⟩)) | (go_at_call 36; (with_reducible refine (knot_Int.calls t109 t112 t113 _ ?side1 A6.out).mono ?_); (case side1 => exact hG.below (by repeat (first | (with_reducible first | exact HB.out | apply pbA | apply pbN | apply pb1) | exact HB.out))); rintro e w25 ⟨rfl, hb⟩; have n0_ := Az.mk (pbT (by repeat (first | (with_reducible first | exact HB.out | apply pbA | apply pbN | apply pb1) | exact HB.out)) hb); clear HB; have HB := n0_; clear n0_; (try clear hb); (try clear hb2); (try clear hk); (try clear hi))); try go_wp2_with (first | (go_at_call 54; (with_reducible refine (strings_Cut.calls (a0.extract 0 ((ji2) : Int).toNat) (⟨#[58]⟩ : ByteArray) t109 t110 false _ ?side1 A5.out).mono ?_); (case side1 => exact hG.below (by repeat (first | (with_reducible first | exact HB.out | apply pbA | apply pbN | apply pb1) | exact HB.out))); rintro e w' ⟨rfl, ⟨nd, rfl⟩⟩; (try first | exact ⟨rfl, _, World.drewN_drewN _ _ _⟩ | exact ⟨rfl, _, Eq.trans (World.drewN_drewN _ _ _) (congrArg (World.drewN _) (Nat.add_assoc _ _ _))⟩)) | (go_at_call 36; (with_reducible refine (knot_Int.calls t109 t112 t113 _ ?side1 A6.out).mono ?_); (case side1 => exact hG.below (by repeat (first | (with_reducible first | exact HB.out | apply pbA | apply pbN | apply pb1) | exact HB.out))); rintro e w25 ⟨rfl, hb⟩; have n0_ := Az.mk (pbT (by repeat (first | (with_reducible first | exact HB.out | apply pbA | apply pbN | apply pb1) | exact HB.out)) hb); clear HB; have HB := n0_; clear n0_; (try clear hb); (try clear hb2); (try clear hk); (try clear hi))))
        go_ret3
        exact ⟨by first | rfl | (simp [errW_none, errW_some] <;> rfl) | (simp only [← hji2]; first | rfl | (simp [errW_none, errW_some] <;> rfl)) | (simp [*, errW_none, errW_some] <;> rfl), by repeat (first | (with_reducible first | exact HB.out | apply pbA | apply pbN | apply pb1) | exact HB.out)⟩
    · rw [if_neg c4] at H
      exact absurd H (by simp)
  · rw [if_neg c3] at H
    exact absurd H (by simp)
end Go.Proofs.YtjpihfjgomoijaaDoor.P
end
section
-- Written by a program of this session (wip/tools/pr.py), over the kit's printer; functions named in the texts imported below are given by hand.
namespace Go.Proofs.YtjpihfjgomoijaaDoor.P
open Go.RowKit Go.Proofs.YtjpihfjgomoijaaDoor.K Go.Proofs.YtjpihfjgomoijaaDoorW.PrintWords Go.Proofs.YtjpihfjgomoijaaDoorW.PrintLast Go.Proofs.YtjpihfjgomoijaaDoorW.PrintMore
attribute [local go_sem] max2_int min2_int max_two min_two max_three min_three max_four min_four   -- for this text's walks alone
/-! ### knot_Untie: function 35 -/
def knot_Untie.l0 : Nat → ByteArray → List ByteArray → Option (List ByteArray × Int)
  | 0, _, _ => none
  | k + 1, x0, x2 => if x0.toList = ([] : List UInt8) then (some (x2, 0)) else ((knot_First.f x0).bind fun bt114 => (if bt114.2.2 = 0 then (if (x2.length : Int) ≥ 4096 then (some (([] : List ByteArray), 10)) else (if x2.length < 8796093022208 then (knot_Untie.l0 k bt114.2.1 (x2 ++ [bt114.1])) else (none))) else (some (([] : List ByteArray), 10))))
def knot_Untie.f (k : Nat) (a0 : ByteArray) : Option (List ByteArray × Int) := if (a0.size : Int) > 1048576 then (some (([] : List ByteArray), 10)) else (knot_Untie.l0 k a0 ([] : List ByteArray))
theorem knot_Untie.mono_l : ∀ k, (∀ y0 y1, LeO (knot_Untie.l0 k y0 y1) (knot_Untie.l0 (k + 1) y0 y1))
  | 0 => fun _ _ r h => by simp [knot_Untie.l0] at h
  | k + 1 => by
    have ih0 := knot_Untie.mono_l k
    · intro y0 y1
      unfold knot_Untie.l0
      repeat' first
      | (with_reducible exact ih0 _ _)
      | (with_reducible exact LeO.refl _)
      | (with_reducible exact LeO.none _)
      | (with_reducible refine LeO.ite ?_ ?_)
      | (with_reducible refine LeO.bind ?_ (fun _ => ?_))
      | exact ih0 _ _
      | exact LeO.none _
      | refine LeO.ite ?_ ?_
      | refine LeO.bind ?_ (fun _ => ?_)
theorem knot_Untie.mono : ∀ a0 k, LeO (knot_Untie.f k a0) (knot_Untie.f (k + 1) a0) := by
  intro a0 k
  have ih0 := knot_Untie.mono_l k
  unfold knot_Untie.f
  repeat' first
      | (with_reducible exact ih0 _ _)
      | (with_reducible exact LeO.refl _)
      | (with_reducible exact LeO.none _)
      | (with_reducible refine LeO.ite ?_ ?_)
      | (with_reducible refine LeO.bind ?_ (fun _ => ?_))
      | exact ih0 _ _
      | exact LeO.none _
      | refine LeO.ite ?_ ?_
      | refine LeO.bind ?_ (fun _ => ?_)
set_option maxHeartbeats 8000000 in
set_option maxRecDepth 100000 in
theorem knot_Untie.calls (k : Nat) (a0 : ByteArray) (r1 : List ByteArray) (r2 : Int) (w : World) (hG : TheG w) (h : knot_Untie.f k a0 = some (r1, r2)) :
    Calls Tryd.prog 35 #[.string a0] w fun e w' => ∃ v0_ : Value, e = .returned (.tuple #[v0_, .int .i64 r2]) ∧ Kd.R Kd.string 9 w' w.heap.size (fun _ => True) v0_ r1 ∧ Below w.heap.size w w' := by
  have HB := Az.mk (Below.refl w.heap.size w)
  have H : (if (a0.size : Int) > 1048576 then (some (([] : List ByteArray), 10)) else (knot_Untie.l0 k a0 ([] : List ByteArray))) = some (r1, r2) := h
  clear h
  by_cases c2 : (a0.size : Int) > 1048576
  · rw [if_pos c2] at H
    have c2b0 : decide (1048576 < (a0.size : Int)) = true := decide_eq_true c2
    have c2b1 : decide (1048576 < a0.size) = true := decide_eq_true (by omega)
    clear c2
    simp only [Option.some.injEq, Prod.mk.injEq] at H
    obtain ⟨rfl, rfl⟩ := H
    go_enter Tryd.func35, Tryd.ntmps35
    go_wp2
    go_ret2
    exact ⟨_, by first | rfl | (simp [errW_none, errW_some] <;> rfl) | (simp [*, errW_none, errW_some] <;> rfl), by first | exact Kd.R_nil _ _ _ _ _ | exact Kd.N_nil _ _ _ _ _ | exact Kd.V_nil _ _ _ _ _ | exact Kd.Q_nil _ _ _ _ _ | exact Kd.S_nil _ _ _ _ _, by repeat (first | (with_reducible first | exact HB.out | apply pbA | apply pbN | apply pb1) | exact HB.out)⟩
  · rw [if_neg c2] at H
    have c2b0 : decide (1048576 < (a0.size : Int)) = false := decide_eq_false c2
    have c2b1 : decide (1048576 < a0.size) = false := decide_eq_false (by omega)
    clear c2
    have H' := Az.mk H
    clear H
    go_enter Tryd.func35, Tryd.ntmps35
    go_wp2
    go_loopg [0, 2] k (fun kq v0 v2 w' => ∃ (x0_1 : ByteArray) (x2_1 : List ByteArray), v0 = .string x0_1 ∧ Az (knot_Untie.l0 kq x0_1 x2_1 = some (r1, r2)) ∧ Az (kq ≤ k) ∧ Az (Kd.R Kd.string 9 w' w.heap.size (fun _ => True) v2 x2_1) ∧ Az (Below w.heap.size w w'))
    case atStart => exact ⟨(a0), (([] : List ByteArray)), (by first | rfl | (simp; done) | (simp [*]; done)), H', ⟨Nat.le_refl _⟩, ⟨by first | exact Kd.R_nil _ _ _ _ _ | exact Kd.N_nil _ _ _ _ _ | exact Kd.V_nil _ _ _ _ _ | exact Kd.Q_nil _ _ _ _ _ | exact Kd.S_nil _ _ _ _ _⟩, ⟨by repeat (first | (with_reducible first | exact HB.out | apply pbA | apply pbN | apply pb1) | exact HB.out)⟩⟩
    case round =>
      clear H'
      try clear c2
      try clear c2b0
      try clear c2b1
      try clear p2
      obtain ⟨x0_1, x2_1, rfl, HA, HK1, HO_2, HB⟩ := hrel
      cases gk with
      | zero => exact absurd HA.out (by simp [knot_Untie.l0])
      | succ k1 =>
        have H := HA.out
        clear HA
        simp only [knot_Untie.l0] at H
        by_cases c3 : x0_1.toList = ([] : List UInt8)
        · rw [if_pos c3] at H
          have c3b0 : (x0_1.toList == ([] : List UInt8)) = true := beq_iff_eq.mpr c3
          have c3b1 : (x0_1.toList != ([] : List UInt8)) = false := bne_eq_false_iff_eq.mpr c3
          clear c3
          simp only [Option.some.injEq, Prod.mk.injEq] at H
          obtain ⟨rfl, rfl⟩ := H
          go_wp2
          go_ret2
          exact ⟨_, by first | rfl | (simp [errW_none, errW_some] <;> rfl) | (simp [*, errW_none, errW_some] <;> rfl), by (with_reducible repeat (first | apply Kd.R_alloc | apply Kd.R_drewN | apply Kd.R_drew)); exact HO_2.out, by repeat (first | (with_reducible first | exact HB.out | apply pbA | apply pbN | apply pb1) | exact HB.out)⟩
        · rw [if_neg c3] at H
          have c3b0 : (x0_1.toList == ([] : List UInt8)) = false := beq_eq_false_iff_ne.mpr c3
          have c3b1 : (x0_1.toList != ([] : List UInt8)) = true := bne_iff_ne.mpr c3
          replace H := Option.bind_eq_some_iff.mp H
          obtain ⟨⟨t114, t115, t116⟩, A40, H⟩ := H
          replace H : (if t116 = 0 then (if (x2_1.length : Int) ≥ 4096 then (some (([] : List ByteArray), 10)) else (if x2_1.length < 8796093022208 then (knot_Untie.l0 k1 t115 (x2_1 ++ [t114])) else (none))) else (some (([] : List ByteArray), 10))) = some (r1, r2) := H
          have A4 := Az.mk A40
          clear A40
          by_cases c5 : t116 = 0
          · rw [if_pos c5] at H
            have c5b0 : (t116 == 0) = true := beq_iff_eq.mpr c5
            have c5b1 : (t116 != 0) = false := bne_eq_false_iff_eq.mpr c5
            clear c5
            by_cases c6 : (x2_1.length : Int) ≥ 4096
            · rw [if_pos c6] at H
              have c6b0 : decide (4096 ≤ (x2_1.length : Int)) = true := decide_eq_true c6
              have c6b1 : decide (4096 ≤ x2_1.length) = true := decide_eq_true (by omega)
              clear c6
              simp only [Option.some.injEq, Prod.mk.injEq] at H
              obtain ⟨rfl, rfl⟩ := H
              go_wp2_with (first | ((with_reducible refine gtc (f := 45) rfl ?_); refine goesL_ (some 12) rfl rfl Tryd.func45 (by kernel_rfl) rfl #[.string x0_1] rfl (by (try simp only [List.map_toArray, List.map_cons, List.map_nil]); first | done | rfl | (simp only [List.length_drop, List.length_take]; rfl)) ?_; (with_reducible refine (knot_First.calls x0_1 t114 t115 t116 _ ?side1 A4.out).mono ?_); (case side1 => exact hG.below (by repeat (first | (with_reducible first | exact HB.out | apply pbA | apply pbN | apply pb1) | exact HB.out))); rintro e w7 ⟨rfl, hb⟩; refine ⟨_, rfl, ?_⟩; have n0_ := Az.mk (Kd.R_below (by (with_reducible repeat (first | apply Kd.R_alloc | apply Kd.R_drewN | apply Kd.R_drew)); exact HO_2.out) hb); have n1_ := Az.mk (pbT (by repeat (first | (with_reducible first | exact HB.out | apply pbA | apply pbN | apply pb1) | exact HB.out)) hb); clear HO_2; clear HB; have HO_2 := n0_; have HB := n1_; clear n0_ n1_; (try clear hb); (try clear hb2); (try clear hk); (try clear hi); obtain ⟨Ao8, co8, eo8⟩ := Kd.R_slice HO_2.out; subst eo8))
              go_ret2
              exact ⟨_, by first | rfl | (simp [errW_none, errW_some] <;> rfl) | (simp [*, errW_none, errW_some] <;> rfl), by first | exact Kd.R_nil _ _ _ _ _ | exact Kd.N_nil _ _ _ _ _ | exact Kd.V_nil _ _ _ _ _ | exact Kd.Q_nil _ _ _ _ _ | exact Kd.S_nil _ _ _ _ _, by repeat (first | (with_reducible first | exact HB.out | apply pbA | apply pbN | apply pb1) | exact HB.out)⟩
            · rw [if_neg c6] at H
              have c6b0 : decide (4096 ≤ (x2_1.length : Int)) = false := decide_eq_false c6
              have c6b1 : decide (4096 ≤ x2_1.length) = false := decide_eq_false (by omega)
              clear c6
              by_cases c9 : x2_1.length < 8796093022208
              · rw [if_pos c9] at H
                have LMc9 := Az.mk c9
                clear c9
                obtain ⟨y117, hy117⟩ : ∃ y_ : List ByteArray, y_ = (x2_1 ++ [t114]) := ⟨_, rfl⟩
                replace H : (knot_Untie.l0 k1 t115 y117) = some (r1, r2) := by first | (rw [hy117]; with_reducible exact H) | (have H2_ := (Option.bind_some _ _).symm.trans H; rw [hy117]; with_reducible exact H2_) | (have H2_ := (Option.bind_some _ _).symm.trans H; with_reducible exact H2_) | with_reducible exact H | (rw [hy117]; exact H) | exact H
                have Ny117 := Az.mk hy117
                clear hy117
                have H' := Az.mk H
                clear H
                go_wp2_with (first | ((with_reducible refine gtc (f := 45) rfl ?_); refine goesL_ (some 12) rfl rfl Tryd.func45 (by kernel_rfl) rfl #[.string x0_1] rfl (by (try simp only [List.map_toArray, List.map_cons, List.map_nil]); first | done | rfl | (simp only [List.length_drop, List.length_take]; rfl)) ?_; (with_reducible refine (knot_First.calls x0_1 t114 t115 t116 _ ?side1 A4.out).mono ?_); (case side1 => exact hG.below (by repeat (first | (with_reducible first | exact HB.out | apply pbA | apply pbN | apply pb1) | exact HB.out))); rintro e w10 ⟨rfl, hb⟩; refine ⟨_, rfl, ?_⟩; have n0_ := Az.mk (Kd.R_below (by (with_reducible repeat (first | apply Kd.R_alloc | apply Kd.R_drewN | apply Kd.R_drew)); exact HO_2.out) hb); have n1_ := Az.mk (pbT (by repeat (first | (with_reducible first | exact HB.out | apply pbA | apply pbN | apply pb1) | exact HB.out)) hb); clear HO_2; clear HB; have HO_2 := n0_; have HB := n1_; clear n0_ n1_; (try clear hb); (try clear hb2); (try clear hk); (try clear hi); obtain ⟨Ao11, co11, eo11⟩ := Kd.R_slice HO_2.out; subst eo11) | ((with_reducible refine gate_builtin (b := .append) (xs := #[.tmp 23, .tmp 25]) rfl ?_); (try (refine gate_guard (by rfl) ?_; dsimp only)); at_builtin; refine Kd.R_append Kd.string (w0 := w) w.heap.size rfl (.tmp 23) (.tmp 25) 56 9 (.string ⟨#[]⟩) 16 rfl Tryd.underlying56 info9 rfl (by decide) (by omega) (.slice Ao11 x2_1.length co11) x2_1 t114 [.string t114] (fun _ => True) (fun _ => False) rfl rfl ?aP (fun _ hk => hk.elim) ?aF ?aO ?aB ?aS ?aL ?_; (case aP => exact rfl); (case aB => exact (by repeat (first | (with_reducible first | exact HB.out | apply pbA | apply pbN | apply pb1) | exact HB.out))); (case aF => exact (fun _ _ => trivial)); (case aO => exact (by (with_reducible repeat (first | apply Kd.R_alloc | apply Kd.R_drewN | apply Kd.R_drew)); exact HO_2.out)); (case aS => exact (pbZ (by repeat (first | (with_reducible first | exact HB.out | apply pbA | apply pbN | apply pb1) | exact HB.out)))); (case aL => have := LMc9.out; omega); intro v118 w12 ho hb hg hat; rw [← Ny117.out] at ho; have n0_ := Az.mk (hb); have n1_ := Az.mk (ho); clear HB; clear HO_2; have HB := n0_; have HO119 := n1_; clear n0_ n1_; clear ho hb hg hat))
                go_roundg k1
                case measure => have := HK1.out; omega
                case rel => exact ⟨(t115), (y117), (by first | rfl | (simp; done) | (simp [*]; done)), H', ⟨by have := HK1.out; omega⟩, ⟨by (with_reducible repeat (first | apply Kd.R_alloc | apply Kd.R_drewN | apply Kd.R_drew)); exact HO119.out⟩, ⟨by repeat (first | (with_reducible first | exact HB.out | apply pbA | apply pbN | apply pb1) | exact HB.out)⟩⟩
              · rw [if_neg c9] at H
                exact absurd H (by simp)
          · rw [if_neg c5] at H
            have c5b0 : (t116 == 0) = false := beq_eq_false_iff_ne.mpr c5
            have c5b1 : (t116 != 0) = true := bne_iff_ne.mpr c5
            simp only [Option.some.injEq, Prod.mk.injEq] at H
            obtain ⟨rfl, rfl⟩ := H
            go_wp2_with (first | ((with_reducible refine gtc (f := 45) rfl ?_); refine goesL_ (some 12) rfl rfl Tryd.func45 (by kernel_rfl) rfl #[.string x0_1] rfl (by (try simp only [List.map_toArray, List.map_cons, List.map_nil]); first | done | rfl | (simp only [List.length_drop, List.length_take]; rfl)) ?_; (with_reducible refine (knot_First.calls x0_1 t114 t115 t116 _ ?side1 A4.out).mono ?_); (case side1 => exact hG.below (by repeat (first | (with_reducible first | exact HB.out | apply pbA | apply pbN | apply pb1) | exact HB.out))); rintro e w13 ⟨rfl, hb⟩; refine ⟨_, rfl, ?_⟩; have n0_ := Az.mk (Kd.R_below (by (with_reducible repeat (first | apply Kd.R_alloc | apply Kd.R_drewN | apply Kd.R_drew)); exact HO_2.out) hb); have n1_ := Az.mk (pbT (by repeat (first | (with_reducible first | exact HB.out | apply pbA | apply pbN | apply pb1) | exact HB.out)) hb); clear HO_2; clear HB; have HO_2 := n0_; have HB := n1_; clear n0_ n1_; (try clear hb); (try clear hb2); (try clear hk); (try clear hi)))
            go_ret2
            exact ⟨_, by first | rfl | (simp [errW_none, errW_some] <;> rfl) | (simp [*, errW_none, errW_some] <;> rfl), by first | exact Kd.R_nil _ _ _ _ _ | exact Kd.N_nil _ _ _ _ _ | exact Kd.V_nil _ _ _ _ _ | exact Kd.Q_nil _ _ _ _ _ | exact Kd.S_nil _ _ _ _ _, by repeat (first | (with_reducible first | exact HB.out | apply pbA | apply pbN | apply pb1) | exact HB.out)⟩
end Go.Proofs.YtjpihfjgomoijaaDoor.P
end
section
-- Written by a program of this session (wip/tools/pr.py), over the kit's printer; functions named in the texts imported below are given by hand.
namespace Go.Proofs.YtjpihfjgomoijaaDoor.P
open Go.RowKit Go.Proofs.YtjpihfjgomoijaaDoor.K Go.Proofs.YtjpihfjgomoijaaDoorW.PrintWords Go.Proofs.YtjpihfjgomoijaaDoorW.PrintLast Go.Proofs.YtjpihfjgomoijaaDoorW.PrintMore
attribute [local go_sem] max2_int min2_int max_two min_two max_three min_three max_four min_four   -- for this text's walks alone
/-! ### r01_Untie: function 37 -/
def r01_Untie.l0 : Nat → ByteArray → List ByteArray → Option (List ByteArray × Int)
  | 0, _, _ => none
  | k + 1, x0, x4 => if x0.toList = ([] : List UInt8) then (some (x4, 0)) else ((r01_First.f x0).bind fun bt234 => (if bt234.2.2 = 0 then (if (x4.length : Int) = 4096 then (some (([] : List ByteArray), 10)) else (if x4.length < 8796093022208 then (r01_Untie.l0 k bt234.2.1 (x4 ++ [bt234.1])) else (none))) else (some (([] : List ByteArray), 10))))
def r01_Untie.f (k : Nat) (a0 : ByteArray) : Option (List ByteArray × Int) := if (a0.size : Int) > 1048576 then (some (([] : List ByteArray), 10)) else (r01_Untie.l0 k a0 ([] : List ByteArray))
theorem r01_Untie.mono_l : ∀ k, (∀ y0 y1, LeO (r01_Untie.l0 k y0 y1) (r01_Untie.l0 (k + 1) y0 y1))
  | 0 => fun _ _ r h => by simp [r01_Untie.l0] at h
  | k + 1 => by
    have ih0 := r01_Untie.mono_l k
    · intro y0 y1
      unfold r01_Untie.l0
      repeat' first
      | (with_reducible exact ih0 _ _)
      | (with_reducible exact LeO.refl _)
      | (with_reducible exact LeO.none _)
      | (with_reducible refine LeO.ite ?_ ?_)
      | (with_reducible refine LeO.bind ?_ (fun _ => ?_))
      | exact ih0 _ _
      | exact LeO.none _
      | refine LeO.ite ?_ ?_
      | refine LeO.bind ?_ (fun _ => ?_)
theorem r01_Untie.mono : ∀ a0 k, LeO (r01_Untie.f k a0) (r01_Untie.f (k + 1) a0) := by
  intro a0 k
  have ih0 := r01_Untie.mono_l k
  unfold r01_Untie.f
  repeat' first
      | (with_reducible exact ih0 _ _)
      | (with_reducible exact LeO.refl _)
      | (with_reducible exact LeO.none _)
      | (with_reducible refine LeO.ite ?_ ?_)
      | (with_reducible refine LeO.bind ?_ (fun _ => ?_))
      | exact ih0 _ _
      | exact LeO.none _
      | refine LeO.ite ?_ ?_
      | refine LeO.bind ?_ (fun _ => ?_)
set_option maxHeartbeats 8000000 in
set_option maxRecDepth 100000 in
theorem r01_Untie.calls (k : Nat) (a0 : ByteArray) (r1 : List ByteArray) (r2 : Int) (w : World) (hG : TheG w) (h : r01_Untie.f k a0 = some (r1, r2)) :
    Calls Tryd.prog 37 #[.string a0] w fun e w' => ∃ v0_ : Value, e = .returned (.tuple #[v0_, .int .i64 r2]) ∧ Kd.R Kd.string 9 w' w.heap.size (fun _ => True) v0_ r1 ∧ Below w.heap.size w w' := by
  have HB := Az.mk (Below.refl w.heap.size w)
  have H : (if (a0.size : Int) > 1048576 then (some (([] : List ByteArray), 10)) else (r01_Untie.l0 k a0 ([] : List ByteArray))) = some (r1, r2) := h
  clear h
  by_cases c2 : (a0.size : Int) > 1048576
  · rw [if_pos c2] at H
    have c2b0 : decide (1048576 < (a0.size : Int)) = true := decide_eq_true c2
    have c2b1 : decide (1048576 < a0.size) = true := decide_eq_true (by omega)
    clear c2
    simp only [Option.some.injEq, Prod.mk.injEq] at H
    obtain ⟨rfl, rfl⟩ := H
    go_enter Tryd.func37, Tryd.ntmps37
    go_wp2
    go_ret2
    exact ⟨_, by first | rfl | (simp [errW_none, errW_some] <;> rfl) | (simp [*, errW_none, errW_some] <;> rfl), by first | exact Kd.R_nil _ _ _ _ _ | exact Kd.N_nil _ _ _ _ _ | exact Kd.V_nil _ _ _ _ _ | exact Kd.Q_nil _ _ _ _ _ | exact Kd.S_nil _ _ _ _ _, by repeat (first | (with_reducible first | exact HB.out | apply pbA | apply pbN | apply pb1) | exact HB.out)⟩
  · rw [if_neg c2] at H
    have c2b0 : decide (1048576 < (a0.size : Int)) = false := decide_eq_false c2
    have c2b1 : decide (1048576 < a0.size) = false := decide_eq_false (by omega)
    clear c2
    have H' := Az.mk H
    clear H
    go_enter Tryd.func37, Tryd.ntmps37
    go_wp2
    go_loopg [0, 4] k (fun kq v0 v4 w' => ∃ (x0_1 : ByteArray) (x4_1 : List ByteArray), v0 = .string x0_1 ∧ Az (r01_Untie.l0 kq x0_1 x4_1 = some (r1, r2)) ∧ Az (kq ≤ k) ∧ Az (Kd.R Kd.string 9 w' w.heap.size (fun _ => True) v4 x4_1) ∧ Az (Below w.heap.size w w'))
    case atStart => exact ⟨(a0), (([] : List ByteArray)), (by first | rfl | (simp; done) | (simp [*]; done)), H', ⟨Nat.le_refl _⟩, ⟨by first | exact Kd.R_nil _ _ _ _ _ | exact Kd.N_nil _ _ _ _ _ | exact Kd.V_nil _ _ _ _ _ | exact Kd.Q_nil _ _ _ _ _ | exact Kd.S_nil _ _ _ _ _⟩, ⟨by repeat (first | (with_reducible first | exact HB.out | apply pbA | apply pbN | apply pb1) | exact HB.out)⟩⟩
    case round =>
      clear H'
      try clear c2
      try clear c2b0
      try clear c2b1
      try clear p2
      obtain ⟨x0_1, x4_1, rfl, HA, HK1, HO_4, HB⟩ := hrel
      cases gk with
      | zero => exact absurd HA.out (by simp [r01_Untie.l0])
      | succ k1 =>
        have H := HA.out
        clear HA
        simp only [r01_Untie.l0] at H
        by_cases c3 : x0_1.toList = ([] : List UInt8)
        · rw [if_pos c3] at H
          have c3b0 : (x0_1.toList == ([] : List UInt8)) = true := beq_iff_eq.mpr c3
          have c3b1 : (x0_1.toList != ([] : List UInt8)) = false := bne_eq_false_iff_eq.mpr c3
          clear c3
          simp only [Option.some.injEq, Prod.mk.injEq] at H
          obtain ⟨rfl, rfl⟩ := H
          go_wp2
          go_ret2
          exact ⟨_, by first | rfl | (simp [errW_none, errW_some] <;> rfl) | (simp [*, errW_none, errW_some] <;> rfl), by (with_reducible repeat (first | apply Kd.R_alloc | apply Kd.R_drewN | apply Kd.R_drew)); exact HO_4.out, by repeat (first | (with_reducible first | exact HB.out | apply pbA | apply pbN | apply pb1) | exact HB.out)⟩
        · rw [if_neg c3] at H
          have c3b0 : (x0_1.toList == ([] : List UInt8)) = false := beq_eq_false_iff_ne.mpr c3
          have c3b1 : (x0_1.toList != ([] : List UInt8)) = true := bne_iff_ne.mpr c3
          replace H := Option.bind_eq_some_iff.mp H
          obtain ⟨⟨t234, t235, t236⟩, A40, H⟩ := H
          replace H : (if t236 = 0 then (if (x4_1.length : Int) = 4096 then (some (([] : List ByteArray), 10)) else (if x4_1.length < 8796093022208 then (r01_Untie.l0 k1 t235 (x4_1 ++ [t234])) else (none))) else (some (([] : List ByteArray), 10))) = some (r1, r2) := H
          have A4 := Az.mk A40
          clear A40
          by_cases c5 : t236 = 0
          · rw [if_pos c5] at H
            have c5b0 : (t236 == 0) = true := beq_iff_eq.mpr c5
            have c5b1 : (t236 != 0) = false := bne_eq_false_iff_eq.mpr c5
            clear c5
            by_cases c6 : (x4_1.length : Int) = 4096
            · rw [if_pos c6] at H
              have c6b0 : ((x4_1.length : Int) == 4096) = true := beq_iff_eq.mpr c6
              have c6b1 : ((x4_1.length : Int) != 4096) = false := bne_eq_false_iff_eq.mpr c6
              clear c6
              simp only [Option.some.injEq, Prod.mk.injEq] at H
              obtain ⟨rfl, rfl⟩ := H
              go_wp2_with (first | ((with_reducible refine gtc (f := 47) rfl ?_); refine goesL_ (some 15) rfl rfl Tryd.func47 (by kernel_rfl) rfl #[.string x0_1] rfl (by (try simp only [List.map_toArray, List.map_cons, List.map_nil]); first | done | rfl | (simp only [List.length_drop, List.length_take]; rfl)) ?_; (with_reducible refine (r01_First.calls x0_1 t234 t235 t236 _ ?side1 A4.out).mono ?_); (case side1 => exact hG.below (by repeat (first | (with_reducible first | exact HB.out | apply pbA | apply pbN | apply pb1) | exact HB.out))); rintro e w' ⟨rfl, ⟨nd, rfl⟩⟩; refine ⟨_, rfl, ?_⟩; obtain ⟨Ao7, co7, eo7⟩ := Kd.R_slice HO_4.out; subst eo7))
              go_ret2
              exact ⟨_, by first | rfl | (simp [errW_none, errW_some] <;> rfl) | (simp [*, errW_none, errW_some] <;> rfl), by first | exact Kd.R_nil _ _ _ _ _ | exact Kd.N_nil _ _ _ _ _ | exact Kd.V_nil _ _ _ _ _ | exact Kd.Q_nil _ _ _ _ _ | exact Kd.S_nil _ _ _ _ _, by repeat (first | (with_reducible first | exact HB.out | apply pbA | apply pbN | apply pb1) | exact HB.out)⟩
            · rw [if_neg c6] at H
              have c6b0 : ((x4_1.length : Int) == 4096) = false := beq_eq_false_iff_ne.mpr c6
              have c6b1 : ((x4_1.length : Int) != 4096) = true := bne_iff_ne.mpr c6
              by_cases c8 : x4_1.length < 8796093022208
              · rw [if_pos c8] at H
                have LMc8 := Az.mk c8
                clear c8
                obtain ⟨y237, hy237⟩ : ∃ y_ : List ByteArray, y_ = (x4_1 ++ [t234]) := ⟨_, rfl⟩
                replace H : (r01_Untie.l0 k1 t235 y237) = some (r1, r2) := by first | (rw [hy237]; with_reducible exact H) | (have H2_ := (Option.bind_some _ _).symm.trans H; rw [hy237]; with_reducible exact H2_) | (have H2_ := (Option.bind_some _ _).symm.trans H; with_reducible exact H2_) | with_reducible exact H | (rw [hy237]; exact H) | exact H
                have Ny237 := Az.mk hy237
                clear hy237
                have H' := Az.mk H
                clear H
                go_wp2_with (first | ((with_reducible refine gtc (f := 47) rfl ?_); refine goesL_ (some 15) rfl rfl Tryd.func47 (by kernel_rfl) rfl #[.string x0_1] rfl (by (try simp only [List.map_toArray, List.map_cons, List.map_nil]); first | done | rfl | (simp only [List.length_drop, List.length_take]; rfl)) ?_; (with_reducible refine (r01_First.calls x0_1 t234 t235 t236 _ ?side1 A4.out).mono ?_); (case side1 => exact hG.below (by repeat (first | (with_reducible first | exact HB.out | apply pbA | apply pbN | apply pb1) | exact HB.out))); rintro e w' ⟨rfl, ⟨nd, rfl⟩⟩; refine ⟨_, rfl, ?_⟩; obtain ⟨Ao9, co9, eo9⟩ := Kd.R_slice HO_4.out; subst eo9) | ((with_reducible refine gate_builtin (b := .append) (xs := #[.tmp 26, .tmp 28]) rfl ?_); (try (refine gate_guard (by rfl) ?_; dsimp only)); at_builtin; refine Kd.R_append Kd.string (w0 := w) w.heap.size rfl (.tmp 26) (.tmp 28) 56 9 (.string ⟨#[]⟩) 16 rfl Tryd.underlying56 info9 rfl (by decide) (by omega) (.slice Ao9 x4_1.length co9) x4_1 t234 [.string t234] (fun _ => True) (fun _ => False) rfl rfl ?aP (fun _ hk => hk.elim) ?aF ?aO ?aB ?aS ?aL ?_; (case aP => exact rfl); (case aB => exact (by repeat (first | (with_reducible first | exact HB.out | apply pbA | apply pbN | apply pb1) | exact HB.out))); (case aF => exact (fun _ _ => trivial)); (case aO => exact (by (with_reducible repeat (first | apply Kd.R_alloc | apply Kd.R_drewN | apply Kd.R_drew)); exact HO_4.out)); (case aS => exact (pbZ (by repeat (first | (with_reducible first | exact HB.out | apply pbA | apply pbN | apply pb1) | exact HB.out)))); (case aL => have := LMc8.out; omega); intro v238 w10 ho hb hg hat; rw [← Ny237.out] at ho; have n0_ := Az.mk (hb); have n1_ := Az.mk (ho); clear HB; clear HO_4; have HB := n0_; have HO239 := n1_; clear n0_ n1_; clear ho hb hg hat))
                go_roundg k1
                case measure => have := HK1.out; omega
                case rel => exact ⟨(t235), (y237), (by first | rfl | (simp; done) | (simp [*]; done)), H', ⟨by have := HK1.out; omega⟩, ⟨by (with_reducible repeat (first | apply Kd.R_alloc | apply Kd.R_drewN | apply Kd.R_drew)); exact HO239.out⟩, ⟨by repeat (first | (with_reducible first | exact HB.out | apply pbA | apply pbN | apply pb1) | exact HB.out)⟩⟩
              · rw [if_neg c8] at H
                exact absurd H (by simp)
          · rw [if_neg c5] at H
            have c5b0 : (t236 == 0) = false := beq_eq_false_iff_ne.mpr c5
            have c5b1 : (t236 != 0) = true := bne_iff_ne.mpr c5
            simp only [Option.some.injEq, Prod.mk.injEq] at H
            obtain ⟨rfl, rfl⟩ := H
            go_wp2_with (first | ((with_reducible refine gtc (f := 47) rfl ?_); refine goesL_ (some 15) rfl rfl Tryd.func47 (by kernel_rfl) rfl #[.string x0_1] rfl (by (try simp only [List.map_toArray, List.map_cons, List.map_nil]); first | done | rfl | (simp only [List.length_drop, List.length_take]; rfl)) ?_; (with_reducible refine (r01_First.calls x0_1 t234 t235 t236 _ ?side1 A4.out).mono ?_); (case side1 => exact hG.below (by repeat (first | (with_reducible first | exact HB.out | apply pbA | apply pbN | apply pb1) | exact HB.out))); rintro e w' ⟨rfl, ⟨nd, rfl⟩⟩; refine ⟨_, rfl, ?_⟩))
            go_ret2
            exact ⟨_, by first | rfl | (simp [errW_none, errW_some] <;> rfl) | (simp [*, errW_none, errW_some] <;> rfl), by first | exact Kd.R_nil _ _ _ _ _ | exact Kd.N_nil _ _ _ _ _ | exact Kd.V_nil _ _ _ _ _ | exact Kd.Q_nil _ _ _ _ _ | exact Kd.S_nil _ _ _ _ _, by repeat (first | (with_reducible first | exact HB.out | apply pbA | apply pbN | apply pb1) | exact HB.out)⟩
end Go.Proofs.YtjpihfjgomoijaaDoor.P
end
section
/- Loops with rounds enough, plainly: no program in sight. -/
namespace Go.Proofs.YtjpihfjgomoijaaDoor.V
open Go.RowKit Go.Proofs.YtjpihfjgomoijaaDoorW.PrintWords Go.Proofs.YtjpihfjgomoijaaDoorW.PrintLast Go.Proofs.YtjpihfjgomoijaaDoorW.PrintMore Go.Proofs.YtjpihfjgomoijaaDoor.A
theorem Ev.shift {α : Type} {g : Nat → Option α} {r : α} (h : Ev (fun k => g (k + 1)) r) : Ev g r := by
  obtain ⟨K, hK⟩ := h
  refine ⟨K + 1, fun k hk => ?_⟩
  obtain ⟨m, rfl⟩ : ∃ m, k = m + 1 := ⟨k - 1, by omega⟩
  exact hK m (by omega)
theorem Ev.ite {α : Type} {c : Prop} [Decidable c] {f g : Nat → Option α} {r : α} (h1 : c → Ev f r) (h2 : ¬ c → Ev g r) : Ev (fun k => if c then f k else g k) r := by
  by_cases h : c
  · obtain ⟨K, hK⟩ := h1 h; exact ⟨K, fun k hk => by simp only; rw [if_pos h]; exact hK k hk⟩
  · obtain ⟨K, hK⟩ := h2 h; exact ⟨K, fun k hk => by simp only; rw [if_neg h]; exact hK k hk⟩
/-- A loop whose index runs up to n, by steps of one. -/
theorem Ev.upto {σ R : Type} {F : Nat → σ → Int → Option R} {n : Nat} {G : σ → Nat → R} {I : σ → Nat → Prop}
    (step : ∀ s i, i < n → I s i → (∀ s', I s' (i + 1) → Ev (fun k => F k s' ((i + 1 : Nat) : Int)) (G s' (i + 1))) → Ev (fun k => F (k + 1) s (i : Int)) (G s i))
    (stop : ∀ s, I s n → Ev (fun k => F (k + 1) s (n : Int)) (G s n)) :
    ∀ (i : Nat), i ≤ n → ∀ s, I s i → Ev (fun k => F k s (i : Int)) (G s i) := by
  have key : ∀ d i, n - i = d → i ≤ n → ∀ s, I s i → Ev (fun k => F k s (i : Int)) (G s i) := by
    intro d
    induction d with
    | zero =>
      intro i hd hi s hs
      have : i = n := by omega
      subst this
      exact Ev.shift (stop s hs)
    | succ d ih =>
      intro i hd hi s hs
      exact Ev.shift (step s i (by omega) hs (fun s' hs' => ih (i + 1) (by omega) (by omega) s' hs'))
  exact fun i hi => key (n - i) i rfl hi
theorem wrap_in {n : Int} (h0 : -9223372036854775808 ≤ n) (h1 : n ≤ 9223372036854775807) : wrap64 n = n := by unfold wrap64; omega
theorem wrap_nat {n : Nat} (h : n ≤ 9223372036854775806) : wrap64 ((n : Int) + 1) = ((n + 1 : Nat) : Int) := by rw [wrap_in (by omega) (by omega)]; rfl
theorem wrap_nat2 {n : Nat} (h : n ≤ 9223372036854775805) : wrap64 ((n : Int) + 2) = ((n + 2 : Nat) : Int) := by rw [wrap_in (by omega) (by omega)]; rfl
theorem nn (n : Nat) : (0 : Int) ≤ (n : Int) := by omega
theorem lt_cast {a b : Nat} (h : a < b) : (a : Int) < (b : Int) := by omega
theorem nlt_cast {a b : Nat} (h : ¬ a < b) : ¬ (a : Int) < (b : Int) := by omega
theorem toList_inj {a b : ByteArray} : a.toList = b.toList ↔ a = b :=
  ⟨fun h => ext_data (by rw [← Lib.toList_data, ← Lib.toList_data, h]), fun h => by rw [h]⟩
theorem toList_nil {a : ByteArray} : a.toList = ([] : List UInt8) ↔ a.data.toList = [] := by rw [Lib.toList_data]
end Go.Proofs.YtjpihfjgomoijaaDoor.V
end
section
/- The plain laws of the knot functions' printed forms: what they answer, with rounds enough. -/
namespace Go.Proofs.YtjpihfjgomoijaaDoor.V
open Go.RowKit Go.Proofs.YtjpihfjgomoijaaDoorW.PrintWords Go.Proofs.YtjpihfjgomoijaaDoorW.PrintLast Go.Proofs.YtjpihfjgomoijaaDoorW.PrintMore Go.Proofs.YtjpihfjgomoijaaDoor.P Go.Proofs.YtjpihfjgomoijaaDoor.K Go.Proofs.YtjpihfjgomoijaaDoor.A
/-! ### small words -/
theorem bt_eq (s : ByteArray) (n : Nat) (c : UInt8) (h : s.data.toList[n]? = some c) : bt s (n : Int) = (c.toNat : Int) := by
  obtain ⟨hl, hc⟩ := List.getElem?_eq_some_iff.1 h
  rw [← Lib.size_eq] at hl
  unfold bt
  rw [dif_pos (by simpa using hl)]
  have : s[n] = c := hc
  simp only [Int.toNat_natCast]
  rw [this]
theorem bt_lt {s : ByteArray} {n : Nat} (h : n < s.size) : s.data.toList[n]? = some s[n] := by
  rw [List.getElem?_eq_getElem (by rw [← Lib.size_eq]; exact h)]; rfl
theorem bt_is (s : ByteArray) (n : Nat) (c : UInt8) (h : n < s.size) : bt s (n : Int) = (c.toNat : Int) ↔ s.data.toList[n]? = some c := by
  rw [bt_eq s n s[n] (bt_lt h), bt_lt h]
  constructor
  · intro e; congr 1; exact UInt8.toNat.inj (by omega)
  · intro e; injection e with e; rw [e]
/-! ### knot.Num, Int -/
theorem num_eq {n : Int} (h : isI n) : knot_Num.f n = some (B (Lib.itoa n)) := by
  unfold knot_Num.f; rw [if_pos h.1, if_pos h.2]; rfl
theorem numB_eq (n : Int) : numB n = B (Lib.itoa n) := rfl
theorem int_eq {s : ByteArray} (h : s.size ≤ 281474976710656) : knot_Int.f s = some (match pz s.data.toList with | some n => (n, 0) | none => (0, 10)) := by
  unfold knot_Int.f
  rw [if_pos h]
  unfold pz
  cases hp : Lib.parseIntB 64 s.data.toList
  case ok v =>
    simp only [Option.some.injEq]
    by_cases e : numB v = s
    · rw [if_pos e, if_pos (by rw [← e, numB_eq, B_data])]
    · rw [if_neg e, if_neg (by intro h; apply e; rw [numB_eq, h, B_of])]
  all_goals rfl
theorem tieL_eq (l : List ByteArray) : tieL l = tieD (l.map fun s => s.data.toList) := by
  unfold tieL tieD
  rw [List.map_map]
  congr 1
  refine List.map_congr_left fun s _ => ?_
  simp [strandL, strand, ← Lib.size_eq]
theorem tie_eq {l : List ByteArray} (h : (tieD (l.map fun s => s.data.toList)).length ≤ 140737488355328) : knot_Tie.f l = some (B (tieD (l.map fun s => s.data.toList))) := by
  unfold knot_Tie.f
  rw [tieL_eq, if_pos h]; rfl
/-! ### knot.First, Untie -/
theorem take_data (s : ByteArray) (n : Nat) : (s.extract 0 n).data.toList = s.data.toList.take n := by rw [Lib.extract_data]; simp
theorem first_eq {s : ByteArray} (h : s.size ≤ 140737488355328) : knot_First.f s = some (firstR s) := by
  have hmn : mn (s.size : Int) 1048576 = ((min s.size 1048576 : Nat) : Int) := by unfold mn; split <;> omega
  have hz := Lib.size_eq s
  unfold knot_First.f firstR firstL
  rw [hmn]
  clear hmn
  obtain ⟨M, hM⟩ : ∃ M : Nat, M = 1048576 := ⟨_, rfl⟩
  rw [← hM]
  have hM1 : M ≤ 1048576 := by omega
  clear hM
  rw [if_pos (by omega), if_pos (by omega), Int.toNat_natCast]
  have hdt : (s.extract 0 (min s.size M)).data.toList = s.data.toList.take M := by
    rw [take_data, hz]
    exact List.take_eq_take_iff.2 (by omega)
  have hsz : (s.extract 0 (min s.size M)).size ≤ 1048576 := by rw [Lib.size_eq, hdt, List.length_take]; omega
  have hcut : strings_Cut.f (s.extract 0 (min s.size M)) (⟨#[58]⟩ : ByteArray) = some (B (Lib.cut (s.data.toList.take M) [58]).1, B (Lib.cut (s.data.toList.take M) [58]).2.1, (Lib.cut (s.data.toList.take M) [58]).2.2) := by
    unfold strings_Cut.f
    rw [if_pos (by omega), hdt]; rfl
  rw [hcut]
  simp only [Option.bind_some]
  have hlt : (s.data.toList.take M).length ≤ 1048576 := by rw [List.length_take]; omega
  have hc1 : (Lib.cut (s.data.toList.take M) [58]).1.length ≤ 1048576 ∧ ((Lib.cut (s.data.toList.take M) [58]).2.2 = true → (Lib.cut (s.data.toList.take M) [58]).1.length + 1 + (Lib.cut (s.data.toList.take M) [58]).2.1.length = (s.data.toList.take M).length) := by
    rcases colon (s.data.toList.take M) with hn | ⟨a, b, hab, hna⟩
    · rw [cut_miss _ hn]; exact ⟨hlt, fun h => by cases h⟩
    · rw [hab] at hlt ⊢; rw [cut_hit _ _ hna]
      simp only [List.length_append, List.length_cons] at hlt ⊢
      exact ⟨by omega, fun _ => by omega⟩
  generalize Lib.cut (s.data.toList.take M) [58] = c at hc1
  obtain ⟨c1, c2, c3⟩ := c
  obtain ⟨hl1, hl2⟩ := hc1
  simp only at hl1 hl2 ⊢
  have htl : (s.data.toList.take M).length ≤ s.data.toList.length := by rw [List.length_take]; omega
  rw [int_eq (by rw [B_size]; omega), B_data]
  simp only [Option.bind_some]
  cases hp : pz c1 with
  | none => simp only; split <;> rfl
  | some n =>
    simp only [B_size]
    by_cases h3 : c3 = true
    · rw [if_pos h3, if_pos trivial]
      have hl2 := hl2 h3
      by_cases hn : n < 0
      · rw [if_pos hn]
        have : ¬ (c3 = true ∧ 0 ≤ n ∧ c2[n.toNat]? = some 44) := by omega
        simp only [if_neg this]
      · rw [if_neg hn]
        obtain ⟨m, rfl⟩ : ∃ m : Nat, n = m := ⟨n.toNat, by omega⟩
        simp only [Int.toNat_natCast]
        by_cases hm : m < c2.length
        · rw [if_neg (by omega), if_pos (by omega), if_pos (by omega)]
          have hbt := bt_is (B c2) m 44 (by rw [B_size]; exact hm)
          rw [B_data] at hbt
          have e44 : ((44 : UInt8).toNat : Int) = 44 := rfl
          rw [e44] at hbt
          have a1 : (m : Int) ≤ (c2.length : Int) := by omega
          have a2 : (0 : Int) ≤ ((c1.length + 1 + m + 1 : Nat) : Int) := by omega
          have a3 : ((c1.length + 1 + m + 1 : Nat) : Int) ≤ (s.size : Int) := by omega
          have hw : wrap64 (wrap64 (wrap64 ((c1.length : Int) + 1) + m) + 1) = ((c1.length + 1 + m + 1 : Nat) : Int) := by
            rw [wrap_in (n := (c1.length : Int) + 1) (by omega) (by omega), wrap_in (n := (c1.length : Int) + 1 + m) (by omega) (by omega), wrap_in (by omega) (by omega)]; omega
          by_cases h44 : c2[m]? = some 44
          · rw [if_pos (hbt.2 h44), if_pos a1, hw, if_pos a2, if_pos a3]
            have hcd : c3 = true ∧ 0 ≤ (m : Int) ∧ c2[m]? = some 44 := ⟨h3, by omega, h44⟩
            simp only [if_pos hcd, Int.toNat_natCast]
            have e1 : (B c2).extract 0 m = B (c2.take m) := ext_data (by rw [take_data, B_data, B_data])
            have e2 : s.extract (c1.length + 1 + m + 1) s.size = B (s.data.toList.drop (c1.length + 1 + m + 1)) :=
              ext_data (by rw [Lib.extract_data, B_data]; exact List.take_of_length_le (by rw [List.length_drop]; omega))
            rw [e1, e2]
          · rw [if_neg (fun h => h44 (hbt.1 h))]
            have : ¬ (c3 = true ∧ 0 ≤ (m : Int) ∧ c2[m]? = some 44) := fun h => h44 h.2.2
            simp only [if_neg this]
        · rw [if_pos (by omega)]
          have : ¬ (c3 = true ∧ 0 ≤ (m : Int) ∧ c2[m]? = some 44) := by
            intro h
            have := (List.getElem?_eq_some_iff.1 h.2.2).1
            omega
          simp only [if_neg this]
    · rw [if_neg h3]
      have : ¬ (c3 = true ∧ 0 ≤ n ∧ c2[n.toNat]? = some 44) := fun h => h3 h.1
      simp only [if_neg this]
/-- What Untie answers. -/
def untieA (acc : List ByteArray) (o : Option (List (List UInt8))) : List ByteArray × Int :=
  match o with | some ss => if acc.length + ss.length ≤ 4096 then (acc ++ ss.map B, 0) else ([], 10) | none => ([], 10)
theorem B_nil_data (s : ByteArray) : s.toList = ([] : List UInt8) ↔ s.data.toList = [] := by rw [Lib.toList_data]
theorem firstR_some {s : ByteArray} {x r : List UInt8} (h : firstL s.data.toList = some (x, r)) : firstR s = (B x, B r, 0) := by unfold firstR; rw [h]
theorem firstR_none {s : ByteArray} (h : firstL s.data.toList = none) : firstR s = (⟨#[]⟩, s, 10) := by unfold firstR; rw [h]
theorem untieA_step (acc : List ByteArray) (x : List UInt8) (o : Option (List (List UInt8))) (h : acc.length < 4096) : untieA (acc ++ [B x]) o = untieA acc (o.map (x :: ·)) := by
  cases o with
  | none => rfl
  | some ss =>
    simp only [untieA, Option.map_some, List.length_append, List.length_cons, List.length_nil]
    by_cases hc : acc.length + (0 + 1) + ss.length ≤ 4096
    · rw [if_pos hc, if_pos (by omega)]; simp
    · rw [if_neg hc, if_neg (by omega)]
theorem untieA_full (acc : List ByteArray) (x : List UInt8) (o : Option (List (List UInt8))) (h : 4096 ≤ acc.length) : untieA acc (o.map (x :: ·)) = ([], 10) := by
  cases o with
  | none => rfl
  | some ss => simp only [untieA, Option.map_some, List.length_cons]; rw [if_neg (by omega)]
theorem untie_loop (n : Nat) : ∀ (s : ByteArray) (acc : List ByteArray), s.size < n → s.size ≤ 1048576 → acc.length ≤ 4096 →
    Ev (fun k => knot_Untie.l0 k s acc) (untieA acc (untieF n s.data.toList)) := by
  induction n with
  | zero => intro s acc h; omega
  | succ n ih =>
    intro s acc hs hm ha
    refine Ev.step (f := fun k => if s.toList = ([] : List UInt8) then (some (acc, 0)) else ((knot_First.f s).bind fun bt106 => (if bt106.2.2 = 0 then (if (acc.length : Int) ≥ 4096 then (some (([] : List ByteArray), 10)) else (if acc.length < 8796093022208 then (knot_Untie.l0 k bt106.2.1 (acc ++ [bt106.1])) else (none))) else (some (([] : List ByteArray), 10))))) (fun k => rfl) ?_
    refine Ev.ite (fun h0 => ?_) (fun h0 => ?_)
    · rw [B_nil_data] at h0
      have : untieA acc (untieF (n + 1) s.data.toList) = (acc, 0) := by
        simp only [untieF]; rw [if_pos h0]; simp [untieA, ha]
      rw [this]; exact Ev.now _
    · rw [B_nil_data] at h0
      rw [first_eq (by omega)]
      simp only [Option.bind_some]
      cases hf : firstL s.data.toList with
      | none =>
        rw [firstR_none hf]
        have : untieF (n + 1) s.data.toList = none := by simp only [untieF]; rw [if_neg h0, hf]
        rw [this]
        exact Ev.now _
      | some p =>
        obtain ⟨x, r⟩ := p
        rw [firstR_some hf]
        have hu : untieF (n + 1) s.data.toList = (untieF n r).map (x :: ·) := by simp only [untieF]; rw [if_neg h0, hf]
        rw [hu]
        obtain ⟨hl, _⟩ := firstL_some hf
        have hlen := congrArg List.length hl
        rw [List.length_append, ← Lib.size_eq, strand_length] at hlen
        refine Ev.ite (fun _ => Ev.ite (fun hfull => ?_) (fun hroom => Ev.ite (fun _ => ?_) (fun h => absurd h (by omega)))) (fun h => absurd rfl h)
        · rw [untieA_full _ _ _ (by omega)]; exact Ev.now _
        · rw [← untieA_step _ _ _ (by omega)]
          have := ih (B r) (acc ++ [B x]) (by rw [B_size]; omega) (by rw [B_size]; omega) (by simp; omega)
          rw [B_data] at this
          exact this
/-- knot.Untie. -/
def untieR (s : ByteArray) : List ByteArray × Int := match untieL s.data.toList with | some ss => (ss.map B, 0) | none => ([], 10)
theorem untieR_eq (s : ByteArray) (h : s.size ≤ 1048576) : untieR s = untieA [] (untieF (s.size + 1) s.data.toList) := by
  unfold untieR untieL untieA
  rw [← Lib.size_eq, if_pos h]
  cases untieF (s.size + 1) s.data.toList with
  | none => rfl
  | some ss =>
    simp only [List.length_nil, Nat.zero_add, List.nil_append]
    by_cases hc : ss.length ≤ 4096
    · rw [if_pos hc, if_pos hc]
    · rw [if_neg hc, if_neg hc]
theorem untieR_long (s : ByteArray) (h : ¬ s.size ≤ 1048576) : untieR s = ([], 10) := by
  unfold untieR untieL; rw [← Lib.size_eq, if_neg h]
theorem untie_ev (s : ByteArray) : Ev (fun k => knot_Untie.f k s) (untieR s) := by
  refine Ev.ite (fun h => ?_) (fun h => ?_)
  · rw [untieR_long s (by omega)]; exact Ev.now _
  · rw [untieR_eq s (by omega)]
    exact untie_loop _ s [] (Nat.lt_succ_self _) (by omega) (by simp)
theorem runtie_loop (n : Nat) : ∀ (s : ByteArray) (acc : List ByteArray), s.size < n → s.size ≤ 1048576 → acc.length ≤ 4096 →
    Ev (fun k => r01_Untie.l0 k s acc) (untieA acc (untieF n s.data.toList)) := by
  induction n with
  | zero => intro s acc h; omega
  | succ n ih =>
    intro s acc hs hm ha
    refine Ev.step (f := fun k => if s.toList = ([] : List UInt8) then (some (acc, 0)) else ((r01_First.f s).bind fun bt142 => (if bt142.2.2 = 0 then (if (acc.length : Int) = 4096 then (some (([] : List ByteArray), 10)) else (if acc.length < 8796093022208 then (r01_Untie.l0 k bt142.2.1 (acc ++ [bt142.1])) else (none))) else (some (([] : List ByteArray), 10))))) (fun k => rfl) ?_
    refine Ev.ite (fun h0 => ?_) (fun h0 => ?_)
    · rw [B_nil_data] at h0
      have : untieA acc (untieF (n + 1) s.data.toList) = (acc, 0) := by
        simp only [untieF]; rw [if_pos h0]; simp [untieA, ha]
      rw [this]; exact Ev.now _
    · rw [B_nil_data] at h0
      rw [show r01_First.f s = some (firstR s) by unfold r01_First.f; rw [if_pos (by omega)]]
      simp only [Option.bind_some]
      cases hf : firstL s.data.toList with
      | none =>
        rw [firstR_none hf]
        have : untieF (n + 1) s.data.toList = none := by simp only [untieF]; rw [if_neg h0, hf]
        rw [this]
        exact Ev.now _
      | some p =>
        obtain ⟨x, r⟩ := p
        rw [firstR_some hf]
        have hu : untieF (n + 1) s.data.toList = (untieF n r).map (x :: ·) := by simp only [untieF]; rw [if_neg h0, hf]
        rw [hu]
        obtain ⟨hl, _⟩ := firstL_some hf
        have hlen := congrArg List.length hl
        rw [List.length_append, ← Lib.size_eq, strand_length] at hlen
        refine Ev.ite (fun _ => Ev.ite (fun hfull => ?_) (fun hroom => Ev.ite (fun _ => ?_) (fun h => absurd h (by omega)))) (fun h => absurd rfl h)
        · rw [untieA_full _ _ _ (by omega)]; exact Ev.now _
        · rw [← untieA_step _ _ _ (by omega)]
          have := ih (B r) (acc ++ [B x]) (by rw [B_size]; omega) (by rw [B_size]; omega) (by simp; omega)
          rw [B_data] at this
          exact this
theorem runtie_ev (s : ByteArray) : Ev (fun k => r01_Untie.f k s) (untieR s) := by
  refine Ev.ite (fun h => ?_) (fun h => ?_)
  · rw [untieR_long s (by omega)]; exact Ev.now _
  · rw [untieR_eq s (by omega)]
    exact runtie_loop _ s [] (Nat.lt_succ_self _) (by omega) (by simp)
end Go.Proofs.YtjpihfjgomoijaaDoor.V
end
section
-- Written by a program of this session (wip/tools/pr.py), over the kit's printer; functions named in the texts imported below are given by hand.
namespace Go.Proofs.YtjpihfjgomoijaaDoor.P
open Go.RowKit Go.Proofs.YtjpihfjgomoijaaDoor.K Go.Proofs.YtjpihfjgomoijaaDoorW.PrintWords Go.Proofs.YtjpihfjgomoijaaDoorW.PrintLast Go.Proofs.YtjpihfjgomoijaaDoorW.PrintMore
attribute [local go_sem] max2_int min2_int max_two min_two max_three min_three max_four min_four   -- for this text's walks alone
/-! ### r01_Int: function 38 -/
mutual
def r01_Int.j0 : Nat → ByteArray → Bool → Option (Int × Int)
  | 0, _, _ => none
  | k + 1, x0, x4 => if x4 = true then (if 1 ≤ (x0.size : Int) then (r01_Int.j1 k x0 x4 (x0.extract 1 x0.size)) else (none)) else (r01_Int.j1 k x0 x4 x0)
def r01_Int.j1 : Nat → ByteArray → Bool → ByteArray → Option (Int × Int)
  | 0, _, _, _ => none
  | k + 1, x0, x4, x5 => r01_Int.l0 k x0 x4 x5 0 0
def r01_Int.l0 : Nat → ByteArray → Bool → ByteArray → Int → Int → Option (Int × Int)
  | 0, _, _, _, _, _ => none
  | k + 1, x0, x4, x5, x6, x7 => if x7 < (x5.size : Int) then (if 0 ≤ x7 then (if (bt x5 x7) < 48 then (some (0, 10)) else (if (bt x5 x7) > 57 then (some (0, 10)) else (if x6 > 1152921504606846976 then (some (0, 10)) else (r01_Int.l0 k x0 x4 x5 (IntKind.u64.wrap ((IntKind.u64.wrap (10 * x6)) + (((bt x5 x7) - 48) % 256))) (wrap64 (x7 + 1)))))) else (none)) else (if x4 = true then ((r01_Num.f (wrap64 (IntKind.u64.wrap ((Go.bits .xor .u64 (-1) x6) + 1)))).bind fun t240 => (if t240.toList = x0.toList then (some (wrap64 (IntKind.u64.wrap ((Go.bits .xor .u64 (-1) x6) + 1)), 0)) else (some (0, 10)))) else ((r01_Num.f (wrap64 (x6))).bind fun t241 => (if t241.toList = x0.toList then (some (wrap64 (x6), 0)) else (some (0, 10)))))
end
def r01_Int.f (k : Nat) (a0 : ByteArray) : Option (Int × Int) := if (a0.size : Int) > 20 then (some (0, 10)) else (if (a0.size : Int) > 0 then (if 0 < (a0.size : Int) then (r01_Int.j0 k a0 ((bt a0 0) == 45)) else (none)) else (r01_Int.j0 k a0 false))
theorem r01_Int.mono_l : ∀ k, (∀ y0 y1, LeO (r01_Int.j0 k y0 y1) (r01_Int.j0 (k + 1) y0 y1)) ∧ (∀ y0 y1 y2, LeO (r01_Int.j1 k y0 y1 y2) (r01_Int.j1 (k + 1) y0 y1 y2)) ∧ (∀ y0 y1 y2 y3 y4, LeO (r01_Int.l0 k y0 y1 y2 y3 y4) (r01_Int.l0 (k + 1) y0 y1 y2 y3 y4))
  | 0 => ⟨fun _ _ r h => by simp [r01_Int.j0] at h, fun _ _ _ r h => by simp [r01_Int.j1] at h, fun _ _ _ _ _ r h => by simp [r01_Int.l0] at h⟩
  | k + 1 => by
    obtain ⟨ih0, ih1, ih2⟩ := r01_Int.mono_l k
    refine ⟨?_, ?_, ?_⟩
    · intro y0 y1
      unfold r01_Int.j0
      repeat' first
      | (with_reducible exact ih0 _ _)
      | (with_reducible exact ih1 _ _ _)
      | (with_reducible exact ih2 _ _ _ _ _)
      | (with_reducible exact LeO.refl _)
      | (with_reducible exact LeO.none _)
      | (with_reducible refine LeO.ite ?_ ?_)
      | (with_reducible refine LeO.bind ?_ (fun _ => ?_))
      | exact ih0 _ _
      | exact ih1 _ _ _
      | exact ih2 _ _ _ _ _
      | exact LeO.none _
      | refine LeO.ite ?_ ?_
      | refine LeO.bind ?_ (fun _ => ?_)
    · intro y0 y1 y2
      unfold r01_Int.j1
      repeat' first
      | (with_reducible exact ih0 _ _)
      | (with_reducible exact ih1 _ _ _)
      | (with_reducible exact ih2 _ _ _ _ _)
      | (with_reducible exact LeO.refl _)
      | (with_reducible exact LeO.none _)
      | (with_reducible refine LeO.ite ?_ ?_)
      | (with_reducible refine LeO.bind ?_ (fun _ => ?_))
      | exact ih0 _ _
      | exact ih1 _ _ _
      | exact ih2 _ _ _ _ _
      | exact LeO.none _
      | refine LeO.ite ?_ ?_
      | refine LeO.bind ?_ (fun _ => ?_)
    · intro y0 y1 y2 y3 y4
      unfold r01_Int.l0
      repeat' first
      | (with_reducible exact ih0 _ _)
      | (with_reducible exact ih1 _ _ _)
      | (with_reducible exact ih2 _ _ _ _ _)
      | (with_reducible exact LeO.refl _)
      | (with_reducible exact LeO.none _)
      | (with_reducible refine LeO.ite ?_ ?_)
      | (with_reducible refine LeO.bind ?_ (fun _ => ?_))
      | exact ih0 _ _
      | exact ih1 _ _ _
      | exact ih2 _ _ _ _ _
      | exact LeO.none _
      | refine LeO.ite ?_ ?_
      | refine LeO.bind ?_ (fun _ => ?_)
theorem r01_Int.mono : ∀ a0 k, LeO (r01_Int.f k a0) (r01_Int.f (k + 1) a0) := by
  intro a0 k
  obtain ⟨ih0, ih1, ih2⟩ := r01_Int.mono_l k
  unfold r01_Int.f
  repeat' first
      | (with_reducible exact ih0 _ _)
      | (with_reducible exact ih1 _ _ _)
      | (with_reducible exact ih2 _ _ _ _ _)
      | (with_reducible exact LeO.refl _)
      | (with_reducible exact LeO.none _)
      | (with_reducible refine LeO.ite ?_ ?_)
      | (with_reducible refine LeO.bind ?_ (fun _ => ?_))
      | exact ih0 _ _
      | exact ih1 _ _ _
      | exact ih2 _ _ _ _ _
      | exact LeO.none _
      | refine LeO.ite ?_ ?_
      | refine LeO.bind ?_ (fun _ => ?_)
set_option maxHeartbeats 8000000 in
set_option maxRecDepth 100000 in
theorem r01_Int.calls (k : Nat) (a0 : ByteArray) (r1 : Int) (r2 : Int) (w : World) (hG : TheG w) (h : r01_Int.f k a0 = some (r1, r2)) :
    Calls Tryd.prog 38 #[.string a0] w fun e w' => e = .returned (.tuple #[.int .i64 r1, .int .i64 r2]) ∧ Drawn0 w w' := by
  have H : (if (a0.size : Int) > 20 then (some (0, 10)) else (if (a0.size : Int) > 0 then (if 0 < (a0.size : Int) then (r01_Int.j0 k a0 ((bt a0 0) == 45)) else (none)) else (r01_Int.j0 k a0 false))) = some (r1, r2) := h
  clear h
  by_cases c2 : (a0.size : Int) > 20
  · rw [if_pos c2] at H
    have c2b0 : decide (20 < (a0.size : Int)) = true := decide_eq_true c2
    have c2b1 : decide (20 < a0.size) = true := decide_eq_true (by omega)
    clear c2
    simp only [Option.some.injEq, Prod.mk.injEq] at H
    obtain ⟨rfl, rfl⟩ := H
    go_enter Tryd.func38, Tryd.ntmps38
    go_wp2
    go_ret2
    exact ⟨by first | rfl | (simp; done) | (simp [*]; done), by repeat (first | exact Drawn0.refl _ | apply Drawn0.step)⟩
  · rw [if_neg c2] at H
    have c2b0 : decide (20 < (a0.size : Int)) = false := decide_eq_false c2
    have c2b1 : decide (20 < a0.size) = false := decide_eq_false (by omega)
    clear c2
    have HC3 := Az.mk H
    clear H
    go_enter Tryd.func38, Tryd.ntmps38
    go_upto_region 3 with (fail)
    go_cut [4] (fun v4 wc => ∃ (kq : Nat) (x4_2 : Bool), v4 = .bool x4_2 ∧ Az (r01_Int.j0 kq a0 x4_2 = some (r1, r2)) ∧ Az (kq ≤ k) ∧ Drawn0 w wc)
    case first =>
      have H := HC3.out
      clear HC3
      by_cases c4 : (a0.size : Int) > 0
      · rw [if_pos c4] at H
        have c4b0 : decide (0 < (a0.size : Int)) = true := decide_eq_true c4
        have c4b1 : decide (0 < a0.size) = true := decide_eq_true (by omega)
        clear c4
        (first | rw [c4b0] | (simp only [i64_w, i32_w]; rw [c4b0]) | skip)
        by_cases c5 : 0 < (a0.size : Int)
        · rw [if_pos c5] at H
          have c5b0 : decide (0 < (a0.size : Int)) = true := decide_eq_true c5
          have c5b1 : decide (0 < a0.size) = true := decide_eq_true (by omega)
          clear c5
          have H' := Az.mk H
          clear H
          have p6 : 0 ≤ (0 : Int) := (by omega)
          have q6 : 0 < a0.size := (by have : (0 : Int) < (a0.size : Int) := of_decide_eq_true (by first | (with_reducible assumption) | assumption); omega)
          have hx6 : ∀ h : 0 < a0.size, ((a0[0]'h).toNat : Int) = bt a0 0 := bt_at a0 0
          clear p6
          have qi6 : (0 < (a0.size : Int)) = True := eq_true (of_decide_eq_true (by first | (with_reducible assumption) | assumption))
          replace q6 := eq_true q6
          go_wp2
          go_meet
          case rel => exact ⟨_, (((bt a0 0) == 45)), (by first | rfl | (simp; done) | (simp [*]; done)), H', ⟨by first | omega | exact Nat.le_refl _⟩, by repeat (first | exact Drawn0.refl _ | apply Drawn0.step)⟩
        · rw [if_neg c5] at H
          exact absurd H (by simp)
      · rw [if_neg c4] at H
        have c4b0 : decide (0 < (a0.size : Int)) = false := decide_eq_false c4
        have c4b1 : decide (0 < a0.size) = false := decide_eq_false (by omega)
        clear c4
        (first | rw [c4b0] | (simp only [i64_w, i32_w]; rw [c4b0]) | skip)
        have H' := Az.mk H
        clear H
        go_wp2
        go_meet
        case rel => exact ⟨_, (false), (by first | rfl | (simp; done) | (simp [*]; done)), H', ⟨by first | omega | exact Nat.le_refl _⟩, by repeat (first | exact Drawn0.refl _ | apply Drawn0.step)⟩
    case rest =>
      clear HC3
      try clear c2
      try clear c2b0
      try clear c2b1
      try clear p2
      try clear c3
      try clear c4
      try clear c4b0
      try clear c4b1
      try clear c5
      try clear c5b0
      try clear c5b1
      try clear p6
      try clear q6
      try clear hx6
      try clear qi6
      try clear p6
      try clear q6
      obtain ⟨kq, x4_2, rfl, HA, HJ2, ⟨mc2, rfl⟩⟩ := hcut
      cases kq with
      | zero => exact absurd HA.out (by simp [r01_Int.j0])
      | succ kj2 =>
        have H := HA.out
        clear HA
        simp only [r01_Int.j0] at H
        have HC7 := Az.mk H
        clear H
        go_upto_if 21 with (fail)
        go_cut [5] (fun v5 wc => ∃ (kq : Nat) (x5_6 : ByteArray), v5 = .string x5_6 ∧ Az (r01_Int.j1 kq a0 x4_2 x5_6 = some (r1, r2)) ∧ Az (kq ≤ kj2) ∧ Drawn0 w wc)
        case first =>
          have H := HC7.out
          clear HC7
          by_cases c8 : x4_2 = true
          · subst c8
            have H1 : (if 1 ≤ (a0.size : Int) then (r01_Int.j1 kj2 a0 true (a0.extract 1 a0.size)) else (none)) = some (r1, r2) := by rw [if_pos rfl] at H; exact H
            clear H
            have H := H1
            clear H1
            by_cases c9 : 1 ≤ (a0.size : Int)
            · rw [if_pos c9] at H
              have c9b0 := eq_true c9
              have c9b1 : decide (1 ≤ (a0.size : Int)) = true := decide_eq_true c9
              clear c9
              have H' := Az.mk H
              clear H
              go_wp2
              go_meet
              case rel => exact ⟨_, (a0.extract 1 a0.size), (by first | rfl | (simp; done) | (simp [*]; done)), H', ⟨by have := HJ2.out; first | omega | exact Nat.le_refl _⟩, by repeat (first | exact Drawn0.refl _ | apply Drawn0.step)⟩
            · rw [if_neg c9] at H
              exact absurd H (by simp)
          · replace c8 := Bool.eq_false_iff.mpr c8
            subst c8
            have H1 : (r01_Int.j1 kj2 a0 false a0) = some (r1, r2) := by rw [if_neg (show ¬ (false = true) by decide)] at H; exact H
            clear H
            have H := H1
            clear H1
            have H' := Az.mk H
            clear H
            go_wp2
            go_meet
            case rel => exact ⟨_, (a0), (by first | rfl | (simp; done) | (simp [*]; done)), H', ⟨by have := HJ2.out; first | omega | exact Nat.le_refl _⟩, by repeat (first | exact Drawn0.refl _ | apply Drawn0.step)⟩
        case rest =>
          clear HC7
          try clear c2
          try clear c2b0
          try clear c2b1
          try clear p2
          try clear c3
          try clear c4
          try clear c4b0
          try clear c4b1
          try clear c5
          try clear c5b0
          try clear c5b1
          try clear p6
          try clear q6
          try clear hx6
          try clear qi6
          try clear c8
          try clear c9
          try clear c9b0
          try clear c9b1
          try clear p2
          try clear p6
          try clear q6
          obtain ⟨kq, x5_6, rfl, HA, HJ6, ⟨mc6, rfl⟩⟩ := hcut
          cases kq with
          | zero => exact absurd HA.out (by simp [r01_Int.j1])
          | succ kj6 =>
            have H := HA.out
            clear HA
            simp only [r01_Int.j1] at H
            have H' := Az.mk H
            clear H
            go_wp2
            go_loopg [6, 7] kj6 (fun kq v6 v7 w' => ∃ (x6_3 : Int) (x7_3 : Int), v6 = .int .u64 x6_3 ∧ v7 = .int .i64 x7_3 ∧ Az (r01_Int.l0 kq a0 x4_2 x5_6 x6_3 x7_3 = some (r1, r2)) ∧ Az (kq ≤ kj6) ∧ Drawn0 w w')
            case atStart => exact ⟨(0), (0), (by first | rfl | (simp; done) | (simp [*]; done)), (by first | rfl | (simp; done) | (simp [*]; done)), H', ⟨Nat.le_refl _⟩, by repeat (first | exact Drawn0.refl _ | apply Drawn0.step)⟩
            case round =>
              clear H'
              try clear c2
              try clear c2b0
              try clear c2b1
              try clear p2
              try clear c3
              try clear c4
              try clear c4b0
              try clear c4b1
              try clear c5
              try clear c5b0
              try clear c5b1
              try clear c6
              try clear p6
              try clear q6
              try clear hx6
              try clear qi6
              try clear c8
              try clear c9
              try clear c9b0
              try clear c9b1
              try clear p2
              try clear p6
              try clear q6
              obtain ⟨x6_3, x7_3, rfl, rfl, HA, HK3, ⟨m3, rfl⟩⟩ := hrel
              cases gk with
              | zero => exact absurd HA.out (by simp [r01_Int.l0])
              | succ k3 =>
                have H := HA.out
                clear HA
                simp only [r01_Int.l0] at H
                by_cases c10 : x7_3 < (x5_6.size : Int)
                · rw [if_pos c10] at H
                  have c10b0 : decide (x7_3 < (x5_6.size : Int)) = true := decide_eq_true c10
                  clear c10
                  by_cases c11 : 0 ≤ x7_3
                  · rw [if_pos c11] at H
                    have c11b0 : decide (0 ≤ x7_3) = true := decide_eq_true c11
                    clear c11
                    by_cases c13 : (bt x5_6 x7_3) < 48
                    · rw [if_pos c13] at H
                      have c13b0 : decide ((bt x5_6 x7_3) < 48) = true := decide_eq_true c13
                      clear c13
                      simp only [Option.some.injEq, Prod.mk.injEq] at H
                      obtain ⟨rfl, rfl⟩ := H
                      have p12 : 0 ≤ (x7_3 : Int) := of_decide_eq_true (by first | (with_reducible assumption) | assumption)
                      have q12 : x7_3 < (x5_6.size : Int) := of_decide_eq_true (by first | (with_reducible assumption) | assumption)
                      have hx12 := bt_at x5_6 x7_3
                      replace p12 := eq_true p12
                      replace q12 := eq_true q12
                      go_wp2
                      go_ret2
                      exact ⟨by first | rfl | (simp; done) | (simp [*]; done), by repeat (first | exact Drawn0.refl _ | apply Drawn0.step)⟩
                    · rw [if_neg c13] at H
                      have c13b0 : decide ((bt x5_6 x7_3) < 48) = false := decide_eq_false c13
                      clear c13
                      by_cases c15 : (bt x5_6 x7_3) > 57
                      · rw [if_pos c15] at H
                        have c15b0 : decide (57 < (bt x5_6 x7_3)) = true := decide_eq_true c15
                        clear c15
                        simp only [Option.some.injEq, Prod.mk.injEq] at H
                        obtain ⟨rfl, rfl⟩ := H
                        have p12 : 0 ≤ (x7_3 : Int) := of_decide_eq_true (by first | (with_reducible assumption) | assumption)
                        have q12 : x7_3 < (x5_6.size : Int) := of_decide_eq_true (by first | (with_reducible assumption) | assumption)
                        have hx12 := bt_at x5_6 x7_3
                        replace p12 := eq_true p12
                        replace q12 := eq_true q12
                        have p14 : 0 ≤ (x7_3 : Int) := of_decide_eq_true (by first | (with_reducible assumption) | assumption)
                        have q14 : x7_3 < (x5_6.size : Int) := of_decide_eq_true (by first | (with_reducible assumption) | assumption)
                        have hx14 := bt_at x5_6 x7_3
                        replace p14 := eq_true p14
                        replace q14 := eq_true q14
                        go_wp2
                        go_ret2
                        exact ⟨by first | rfl | (simp; done) | (simp [*]; done), by repeat (first | exact Drawn0.refl _ | apply Drawn0.step)⟩
                      · rw [if_neg c15] at H
                        have c15b0 : decide (57 < (bt x5_6 x7_3)) = false := decide_eq_false c15
                        clear c15
                        by_cases c16 : x6_3 > 1152921504606846976
                        · rw [if_pos c16] at H
                          have c16b0 : decide (1152921504606846976 < x6_3) = true := decide_eq_true c16
                          clear c16
                          simp only [Option.some.injEq, Prod.mk.injEq] at H
                          obtain ⟨rfl, rfl⟩ := H
                          have p12 : 0 ≤ (x7_3 : Int) := of_decide_eq_true (by first | (with_reducible assumption) | assumption)
                          have q12 : x7_3 < (x5_6.size : Int) := of_decide_eq_true (by first | (with_reducible assumption) | assumption)
                          have hx12 := bt_at x5_6 x7_3
                          replace p12 := eq_true p12
                          replace q12 := eq_true q12
                          have p14 : 0 ≤ (x7_3 : Int) := of_decide_eq_true (by first | (with_reducible assumption) | assumption)
                          have q14 : x7_3 < (x5_6.size : Int) := of_decide_eq_true (by first | (with_reducible assumption) | assumption)
                          have hx14 := bt_at x5_6 x7_3
                          replace p14 := eq_true p14
                          replace q14 := eq_true q14
                          go_wp2
                          go_ret2
                          exact ⟨by first | rfl | (simp; done) | (simp [*]; done), by repeat (first | exact Drawn0.refl _ | apply Drawn0.step)⟩
                        · rw [if_neg c16] at H
                          have c16b0 : decide (1152921504606846976 < x6_3) = false := decide_eq_false c16
                          clear c16
                          have H' := Az.mk H
                          clear H
                          have p12 : 0 ≤ (x7_3 : Int) := of_decide_eq_true (by first | (with_reducible assumption) | assumption)
                          have q12 : x7_3 < (x5_6.size : Int) := of_decide_eq_true (by first | (with_reducible assumption) | assumption)
                          have hx12 := bt_at x5_6 x7_3
                          replace p12 := eq_true p12
                          replace q12 := eq_true q12
                          have p14 : 0 ≤ (x7_3 : Int) := of_decide_eq_true (by first | (with_reducible assumption) | assumption)
                          have q14 : x7_3 < (x5_6.size : Int) := of_decide_eq_true (by first | (with_reducible assumption) | assumption)
                          have hx14 := bt_at x5_6 x7_3
                          replace p14 := eq_true p14
                          replace q14 := eq_true q14
                          have p17 : 0 ≤ (x7_3 : Int) := of_decide_eq_true (by first | (with_reducible assumption) | assumption)
                          have q17 : x7_3 < (x5_6.size : Int) := of_decide_eq_true (by first | (with_reducible assumption) | assumption)
                          have hx17 := bt_at x5_6 x7_3
                          replace p17 := eq_true p17
                          replace q17 := eq_true q17
                          go_wp2
                          go_roundg k3
                          case measure => have := HJ2.out; have := HJ6.out; have := HK3.out; omega
                          case rel => exact ⟨(IntKind.u64.wrap ((IntKind.u64.wrap (10 * x6_3)) + (((bt x5_6 x7_3) - 48) % 256))), (wrap64 (x7_3 + 1)), (by first | rfl | (simp; done) | (simp [*]; done)), (by first | rfl | (simp; done) | (simp [*]; done)), H', ⟨by have := HJ2.out; have := HJ6.out; have := HK3.out; omega⟩, by repeat (first | exact Drawn0.refl _ | apply Drawn0.step)⟩
                  · rw [if_neg c11] at H
                    exact absurd H (by simp)
                · rw [if_neg c10] at H
                  have c10b0 : decide (x7_3 < (x5_6.size : Int)) = false := decide_eq_false c10
                  clear c10
                  by_cases c18 : x4_2 = true
                  · subst c18
                    have H1 : ((r01_Num.f (wrap64 (IntKind.u64.wrap ((Go.bits .xor .u64 (-1) x6_3) + 1)))).bind fun t240 => (if t240.toList = a0.toList then (some (wrap64 (IntKind.u64.wrap ((Go.bits .xor .u64 (-1) x6_3) + 1)), 0)) else (some (0, 10)))) = some (r1, r2) := by rw [if_pos rfl] at H; exact H
                    clear H
                    have H := H1
                    clear H1
                    replace H := Option.bind_eq_some_iff.mp H
                    obtain ⟨t240, A190, H⟩ := H
                    replace H : (if t240.toList = a0.toList then (some (wrap64 (IntKind.u64.wrap ((Go.bits .xor .u64 (-1) x6_3) + 1)), 0)) else (some (0, 10))) = some (r1, r2) := H
                    have A19 := Az.mk A190
                    clear A190
                    by_cases c20 : t240.toList = a0.toList
                    · rw [if_pos c20] at H
                      have c20b0 : (t240.toList == a0.toList) = true := beq_iff_eq.mpr c20
                      have c20b1 : (t240.toList != a0.toList) = false := bne_eq_false_iff_eq.mpr c20
                      clear c20
                      simp only [Option.some.injEq, Prod.mk.injEq] at H
                      obtain ⟨rfl, rfl⟩ := H
                      go_wp2_with (first | ((with_reducible refine gtc (f := 42) rfl ?_); refine goesL_ (some 60) rfl rfl Tryd.func42 (by kernel_rfl) rfl #[.int .i64 (wrap64 (IntKind.u64.wrap ((Go.bits .xor .u64 (-1) x6_3) + 1)))] rfl (by (try simp only [List.map_toArray, List.map_cons, List.map_nil]); first | done | rfl | (simp only [List.length_drop, List.length_take]; rfl)) ?_; (with_reducible refine (r01_Num.calls (wrap64 (IntKind.u64.wrap ((Go.bits .xor .u64 (-1) x6_3) + 1))) t240 _ ?side1 A19.out).mono ?_); (case side1 => exact hG.quiet (by repeat (first | exact Drawn0.refl _ | apply Drawn0.step))); rintro e w' ⟨rfl, ⟨nd, rfl⟩⟩; refine ⟨_, rfl, ?_⟩))
                      go_ret2
                      exact ⟨by first | rfl | (simp; done) | (simp [*]; done), by repeat (first | exact Drawn0.refl _ | apply Drawn0.step)⟩
                    · rw [if_neg c20] at H
                      have c20b0 : (t240.toList == a0.toList) = false := beq_eq_false_iff_ne.mpr c20
                      have c20b1 : (t240.toList != a0.toList) = true := bne_iff_ne.mpr c20
                      simp only [Option.some.injEq, Prod.mk.injEq] at H
                      obtain ⟨rfl, rfl⟩ := H
                      go_wp2_with (first | ((with_reducible refine gtc (f := 42) rfl ?_); refine goesL_ (some 60) rfl rfl Tryd.func42 (by kernel_rfl) rfl #[.int .i64 (wrap64 (IntKind.u64.wrap ((Go.bits .xor .u64 (-1) x6_3) + 1)))] rfl (by (try simp only [List.map_toArray, List.map_cons, List.map_nil]); first | done | rfl | (simp only [List.length_drop, List.length_take]; rfl)) ?_; (with_reducible refine (r01_Num.calls (wrap64 (IntKind.u64.wrap ((Go.bits .xor .u64 (-1) x6_3) + 1))) t240 _ ?side1 A19.out).mono ?_); (case side1 => exact hG.quiet (by repeat (first | exact Drawn0.refl _ | apply Drawn0.step))); rintro e w' ⟨rfl, ⟨nd, rfl⟩⟩; refine ⟨_, rfl, ?_⟩))
                      go_ret2
                      exact ⟨by first | rfl | (simp; done) | (simp [*]; done), by repeat (first | exact Drawn0.refl _ | apply Drawn0.step)⟩
                  · replace c18 := Bool.eq_false_iff.mpr c18
                    subst c18
                    have H1 : ((r01_Num.f (wrap64 (x6_3))).bind fun t241 => (if t241.toList = a0.toList then (some (wrap64 (x6_3), 0)) else (some (0, 10)))) = some (r1, r2) := by rw [if_neg (show ¬ (false = true) by decide)] at H; exact H
                    clear H
                    have H := H1
                    clear H1
                    replace H := Option.bind_eq_some_iff.mp H
                    obtain ⟨t241, A210, H⟩ := H
                    replace H : (if t241.toList = a0.toList then (some (wrap64 (x6_3), 0)) else (some (0, 10))) = some (r1, r2) := H
                    have A21 := Az.mk A210
                    clear A210
                    by_cases c22 : t241.toList = a0.toList
                    · rw [if_pos c22] at H
                      have c22b0 : (t241.toList == a0.toList) = true := beq_iff_eq.mpr c22
                      have c22b1 : (t241.toList != a0.toList) = false := bne_eq_false_iff_eq.mpr c22
                      clear c22
                      simp only [Option.some.injEq, Prod.mk.injEq] at H
                      obtain ⟨rfl, rfl⟩ := H
                      go_wp2_with (first | ((with_reducible refine gtc (f := 42) rfl ?_); refine goesL_ (some 60) rfl rfl Tryd.func42 (by kernel_rfl) rfl #[.int .i64 (wrap64 (x6_3))] rfl (by (try simp only [List.map_toArray, List.map_cons, List.map_nil]); first | done | rfl | (simp only [List.length_drop, List.length_take]; rfl)) ?_; (with_reducible refine (r01_Num.calls (wrap64 (x6_3)) t241 _ ?side1 A21.out).mono ?_); (case side1 => exact hG.quiet (by repeat (first | exact Drawn0.refl _ | apply Drawn0.step))); rintro e w' ⟨rfl, ⟨nd, rfl⟩⟩; refine ⟨_, rfl, ?_⟩))
                      go_ret2
                      exact ⟨by first | rfl | (simp; done) | (simp [*]; done), by repeat (first | exact Drawn0.refl _ | apply Drawn0.step)⟩
                    · rw [if_neg c22] at H
                      have c22b0 : (t241.toList == a0.toList) = false := beq_eq_false_iff_ne.mpr c22
                      have c22b1 : (t241.toList != a0.toList) = true := bne_iff_ne.mpr c22
                      simp only [Option.some.injEq, Prod.mk.injEq] at H
                      obtain ⟨rfl, rfl⟩ := H
                      go_wp2_with (first | ((with_reducible refine gtc (f := 42) rfl ?_); refine goesL_ (some 60) rfl rfl Tryd.func42 (by kernel_rfl) rfl #[.int .i64 (wrap64 (x6_3))] rfl (by (try simp only [List.map_toArray, List.map_cons, List.map_nil]); first | done | rfl | (simp only [List.length_drop, List.length_take]; rfl)) ?_; (with_reducible refine (r01_Num.calls (wrap64 (x6_3)) t241 _ ?side1 A21.out).mono ?_); (case side1 => exact hG.quiet (by repeat (first | exact Drawn0.refl _ | apply Drawn0.step))); rintro e w' ⟨rfl, ⟨nd, rfl⟩⟩; refine ⟨_, rfl, ?_⟩))
                      go_ret2
                      exact ⟨by first | rfl | (simp; done) | (simp [*]; done), by repeat (first | exact Drawn0.refl _ | apply Drawn0.step)⟩
end Go.Proofs.YtjpihfjgomoijaaDoor.P
end
section
/- The reference's Int, told plainly. -/
namespace Go.Proofs.YtjpihfjgomoijaaDoor.V
open Go.RowKit Go.Proofs.YtjpihfjgomoijaaDoorW.PrintWords Go.Proofs.YtjpihfjgomoijaaDoorW.PrintLast Go.Proofs.YtjpihfjgomoijaaDoorW.PrintMore Go.Proofs.YtjpihfjgomoijaaDoor.P Go.Proofs.YtjpihfjgomoijaaDoor.K Go.Proofs.YtjpihfjgomoijaaDoor.A
theorem isI_wf {n : Int} (h : (Lit.int .i64 n).wf = true) : isI n := by
  exact bounds_i64 h
/-- The digits of a text, one by one, as the reference goes. -/
def scan (n : Nat) : List UInt8 → Option Nat
  | [] => some n
  | c :: r => if c.toNat < 48 then none else if 57 < c.toNat then none else if 1152921504606846976 < n then none else scan (10 * n + (c.toNat - 48)) r
theorem scan_digits : ∀ (l : List UInt8) (n : Nat), (∀ c ∈ l, isD c) → dval n l ≤ 9223372036854775808 → scan n l = some (dval n l)
  | [], n, _, _ => rfl
  | c :: r, n, hd, hv => by
    have hc := hd c (by simp)
    unfold isD at hc
    have hm := dval_mono r (10 * n + (c.toNat - 48))
    have hv' : dval (10 * n + (c.toNat - 48)) r ≤ 9223372036854775808 := hv
    simp only [scan]
    rw [if_neg (by omega), if_neg (by omega), if_neg (by omega)]
    exact scan_digits r _ (fun x hx => hd x (by simp [hx])) hv'
theorem bits_not_u64 (n : Nat) (h : n ≤ 18446744073709551615) : Go.bits .xor .u64 (-1) (n : Int) = 18446744073709551615 - (n : Int) := by
  have hx : BitVec.ofInt 64 (-1) = BitVec.allOnes 64 := by decide
  show IntKind.u64.wrap (((BitVec.ofInt 64 (-1) ^^^ BitVec.ofInt 64 (n : Int)).toNat : Nat) : Int) = _
  rw [hx, BitVec.allOnes_xor, BitVec.toNat_not, BitVec.toNat_ofInt, IntKind.wrap_u64]
  omega
/-- The number that the reference makes of the digits' number. -/
def signed (neg : Bool) (m : Nat) : Int := if neg = true then wrap64 (IntKind.u64.wrap ((Go.bits .xor .u64 (-1) (m : Int)) + 1)) else wrap64 (m : Int)
theorem signed_neg (m : Nat) (h : m ≤ 9223372036854775808) : signed true m = -(m : Int) := by
  unfold signed
  rw [if_pos rfl, bits_not_u64 m (by omega), IntKind.wrap_u64]
  unfold wrap64
  omega
theorem signed_pos (m : Nat) (h : m ≤ 9223372036854775807) : signed false m = (m : Int) := by
  unfold signed
  rw [if_neg (by simp)]
  unfold wrap64
  omega
theorem wrap64_isI (n : Int) : isI (wrap64 n) := by unfold isI wrap64; omega
theorem signed_isI (b : Bool) (m : Nat) : isI (signed b m) := by unfold signed; split <;> exact wrap64_isI _
def fin (s : ByteArray) (neg : Bool) (o : Option Nat) : Int × Int := match o with
  | some m => if B (Lib.itoa (signed neg m)) = s then (signed neg m, 0) else (0, 10)
  | none => (0, 10)
theorem rnum_eq {n : Int} (h : isI n) : r01_Num.f n = some (B (Lib.itoa n)) := by
  unfold r01_Num.f; rw [if_pos h.1, if_pos h.2]; rfl
theorem step_bound {n c : Nat} (h2 : ¬ 57 < c) (h3 : ¬ 1152921504606846976 < n) : 10 * n + (c - 48) ≤ 11529215046068469769 := by omega
theorem step_wrap {n c : Nat} (h1 : ¬ c < 48) (h2 : ¬ 57 < c) (h3 : ¬ 1152921504606846976 < n) : IntKind.u64.wrap ((IntKind.u64.wrap (10 * (n : Int))) + (((c : Int) - 48) % 256)) = ((10 * n + (c - 48) : Nat) : Int) := by
  rw [IntKind.wrap_u64, IntKind.wrap_u64]; omega
theorem big_int {n : Nat} (h : 1152921504606846976 < n) : (n : Int) > 1152921504606846976 := by omega
theorem not_big_int {n : Nat} (h : ¬ 1152921504606846976 < n) : ¬ (n : Int) > 1152921504606846976 := by omega
theorem wrap_succ (i : Nat) (h : i ≤ 100) : wrap64 ((i : Int) + 1) = ((i + 1 : Nat) : Int) := by unfold wrap64; omega
theorem cast_lt48 {c : Nat} (h : c < 48) : (c : Int) < 48 := by omega
theorem cast_nlt48 {c : Nat} (h : ¬ c < 48) : ¬ (c : Int) < 48 := by omega
theorem cast_gt57 {c : Nat} (h : 57 < c) : (c : Int) > 57 := by omega
theorem cast_ngt57 {c : Nat} (h : ¬ 57 < c) : ¬ (c : Int) > 57 := by omega
theorem rint_loop (s : ByteArray) (neg : Bool) (x : ByteArray) (hx : x.size ≤ 20) (d : Nat) : ∀ (i n : Nat), x.size - i = d → i ≤ x.size → n ≤ 11529215046068469769 →
    Ev (fun k => r01_Int.l0 k s neg x (n : Int) (i : Int)) (fin s neg (scan n (x.data.toList.drop i))) := by
  have hz := Lib.size_eq x
  induction d with
  | zero =>
    intro i n hd hi hn
    rw [List.drop_of_length_le (by omega)]
    simp only [scan, fin]
    refine Ev.step (f := fun _ => some (if B (Lib.itoa (signed neg n)) = s then (signed neg n, 0) else (0, 10))) (fun k => ?_) (Ev.now _)
    simp only [r01_Int.l0]
    rw [if_neg (by omega)]
    by_cases hb : neg = true
    · rw [if_pos hb]
      have e : wrap64 (IntKind.u64.wrap ((Go.bits .xor .u64 (-1) (n : Int)) + 1)) = signed neg n := by unfold signed; rw [if_pos hb]
      rw [e, rnum_eq (signed_isI _ _)]
      simp only [Option.bind_some, toList_inj]
      split <;> rfl
    · rw [if_neg hb]
      have e : wrap64 (n : Int) = signed neg n := by unfold signed; rw [if_neg hb]
      rw [e, rnum_eq (signed_isI _ _)]
      simp only [Option.bind_some, toList_inj]
      split <;> rfl
  | succ d ih =>
    intro i n hd hi hn
    have hlt : i < x.size := by omega
    have hi1 : x.size - (i + 1) = d := by omega
    have hi2 : i + 1 ≤ x.size := by omega
    have a1 : (i : Int) < (x.size : Int) := by omega
    have a2 : 0 ≤ (i : Int) := by omega
    have e2 : wrap64 ((i : Int) + 1) = ((i + 1 : Nat) : Int) := wrap_succ i (by omega)
    have hg := bt_lt hlt
    have hbt := bt_eq x i x[i] hg
    have hdrop : x.data.toList.drop i = x[i] :: x.data.toList.drop (i + 1) := by
      obtain ⟨h1, h2⟩ := List.getElem?_eq_some_iff.1 hg
      rw [List.drop_eq_getElem_cons h1, h2]
    have hc256 : x[i].toNat < 256 := x[i].toNat_lt
    rw [hdrop]
    simp only [scan]
    generalize x[i].toNat = c at hbt hc256
    by_cases h1 : c < 48
    · rw [if_pos h1]
      have b1 := cast_lt48 h1
      refine Ev.step (f := fun _ => some (0, 10)) (fun k => ?_) (Ev.now _)
      simp only [r01_Int.l0]
      rw [if_pos a1, if_pos a2, hbt, if_pos b1]
    rw [if_neg h1]
    have b1 := cast_nlt48 h1
    by_cases h2 : 57 < c
    · rw [if_pos h2]
      have b2 := cast_gt57 h2
      refine Ev.step (f := fun _ => some (0, 10)) (fun k => ?_) (Ev.now _)
      simp only [r01_Int.l0]
      rw [if_pos a1, if_pos a2, hbt, if_neg b1, if_pos b2]
    rw [if_neg h2]
    have b2 := cast_ngt57 h2
    by_cases h3 : 1152921504606846976 < n
    · rw [if_pos h3]
      have b3 := big_int h3
      refine Ev.step (f := fun _ => some (0, 10)) (fun k => ?_) (Ev.now _)
      simp only [r01_Int.l0]
      rw [if_pos a1, if_pos a2, hbt, if_neg b1, if_neg b2, if_pos b3]
    rw [if_neg h3]
    have b3 := not_big_int h3
    have e1 := step_wrap h1 h2 h3
    refine Ev.step (f := fun k => r01_Int.l0 k s neg x ((10 * n + (c - 48) : Nat) : Int) ((i + 1 : Nat) : Int)) (fun k => ?_) (ih (i + 1) (10 * n + (c - 48)) hi1 hi2 (step_bound h2 h3))
    simp only [r01_Int.l0]
    rw [if_pos a1, if_pos a2, hbt, if_neg b1, if_neg b2, if_neg b3, e1, e2]
theorem nDigits_le (k u : Nat) (hk : 1 ≤ k) (h : u < 10 ^ k) : Lib.nDigits u ≤ k := by
  induction k generalizing u with
  | zero => omega
  | succ k ih =>
    by_cases hu : u < 10
    · rw [Lib.nDigits_small hu]; omega
    · rw [Lib.nDigits_big hu]
      have hk0 : 1 ≤ k := by
        rcases Nat.eq_zero_or_pos k with h0 | h0
        · subst h0; omega
        · exact h0
      have := ih (u / 10) hk0 (by rw [Nat.pow_succ] at h; omega)
      omega
theorem itoa_le20 {n : Int} (h : isI n) : (Lib.itoa n).length ≤ 20 := by
  unfold isI at h
  unfold Lib.itoa
  split
  · rw [List.length_cons, Lib.decDigits_length]
    have := nDigits_le 19 n.natAbs (by omega) (by omega)
    omega
  · rw [Lib.decDigits_length]
    have := nDigits_le 19 n.toNat (by omega) (by omega)
    omega
theorem pz_isI {l : List UInt8} {n : Int} (h : pz l = some n) : isI n := by
  unfold pz at h
  split at h
  · rename_i v hv
    split at h
    · injection h with h
      subst h
      exact parseIntB_bound hv
    · exact absurd h (by simp)
  · exact absurd h (by simp)
def intA (o : Option Int) : Int × Int := match o with | some n => (n, 0) | none => (0, 10)
theorem fin_eq (s : ByteArray) (neg : Bool) (o : Option Nat) (h : ∀ v, pz s.data.toList = some v → ∃ m, o = some m ∧ signed neg m = v) : fin s neg o = intA (pz s.data.toList) := by
  cases hp : pz s.data.toList with
  | some v =>
    obtain ⟨m, rfl, hs⟩ := h v hp
    simp only [fin, intA]
    rw [hs, if_pos (by rw [← pz_some hp, B_of])]
  | none =>
    cases o with
    | none => rfl
    | some m =>
      simp only [fin, intA]
      rw [if_neg]
      intro e
      have := pz_itoa (signed_isI neg m)
      rw [← e, B_data, this] at hp
      cases hp
theorem rint_ev (s : ByteArray) : Ev (fun k => r01_Int.f k s) (intA (pz s.data.toList)) := by
  have hz := Lib.size_eq s
  refine Ev.ite (fun h => ?_) (fun h => ?_)
  · have : pz s.data.toList = none := by
      cases hp : pz s.data.toList with
      | none => rfl
      | some v =>
        have h1 := itoa_le20 (pz_isI hp)
        rw [← pz_some hp] at h1
        omega
    rw [this]; exact Ev.now _
  · by_cases h45 : s.data.toList.head? = some 45
    · obtain ⟨r, hr⟩ : ∃ r, s.data.toList = 45 :: r := by
        cases hl : s.data.toList with
        | nil => rw [hl] at h45; cases h45
        | cons c r => rw [hl] at h45; injection h45 with h45; subst h45; exact ⟨r, rfl⟩
      have hpos : 0 < s.size := by rw [hz, hr]; simp
      have hb0 : bt s 0 = 45 := bt_eq s 0 45 (by rw [hr]; rfl)
      have hx : (s.extract 1 s.size).data.toList = r := by
        rw [Lib.extract_data, hr]; simp only [List.drop_succ_cons, List.drop_zero]; exact List.take_of_length_le (by rw [hz, hr]; simp)
      have hxs : (s.extract 1 s.size).size ≤ 20 := by rw [Lib.size_eq, hx]; rw [hz, hr] at h; simp at h; omega
      rw [← fin_eq s true (scan 0 r) (by
        intro v hv
        have he := pz_some hv
        have hI := pz_isI hv
        rw [hr] at he
        unfold Lib.itoa at he
        unfold isI at hI
        split at he
        · injection he with _ he
          refine ⟨v.natAbs, ?_, ?_⟩
          · rw [he, scan_digits _ 0 (decDigits_isD _) (by rw [decDigits_val]; omega), decDigits_val]
          · rw [signed_neg _ (by omega)]; omega
        · have h45' : (45 : UInt8) ∈ Lib.decDigits v.toNat := by rw [← he]; simp
          have := decDigits_isD _ _ h45'
          unfold isD at this
          have e : (45 : UInt8).toNat = 45 := rfl
          omega)]
      refine Ev.ite (fun _ => ?_) (fun h => absurd h (by omega))
      refine Ev.ite (fun _ => ?_) (fun h => absurd h (by omega))
      have hb : (bt s 0 == 45) = true := by rw [hb0]; rfl
      rw [hb]
      refine Ev.step (f := fun k => r01_Int.j1 k s true (s.extract 1 s.size)) (fun k => ?_) ?_
      · simp only [r01_Int.j0, if_true]; rw [if_pos (by omega)]
      · refine Ev.step (f := fun k => r01_Int.l0 k s true (s.extract 1 s.size) ((0 : Nat) : Int) ((0 : Nat) : Int)) (fun k => rfl) ?_
        have := rint_loop s true (s.extract 1 s.size) hxs _ 0 0 rfl (Nat.zero_le _) (by omega)
        rw [List.drop_zero, hx] at this
        exact this
    · rw [← fin_eq s false (scan 0 s.data.toList) (by
        intro v hv
        have he := pz_some hv
        have hI := pz_isI hv
        unfold isI at hI
        unfold Lib.itoa at he
        split at he
        · rw [he] at h45; exact absurd rfl h45
        · refine ⟨v.toNat, ?_, ?_⟩
          · rw [he, scan_digits _ 0 (decDigits_isD _) (by rw [decDigits_val]; omega), decDigits_val]
          · rw [signed_pos _ (by omega)]; omega)]
      have goal : Ev (fun k => r01_Int.j0 k s false) (fin s false (scan 0 s.data.toList)) := by
        refine Ev.step (f := fun k => r01_Int.j1 k s false s) (fun k => ?_) ?_
        · simp only [r01_Int.j0]; rfl
        · refine Ev.step (f := fun k => r01_Int.l0 k s false s ((0 : Nat) : Int) ((0 : Nat) : Int)) (fun k => rfl) ?_
          have := rint_loop s false s (by omega) _ 0 0 rfl (Nat.zero_le _) (by omega)
          rw [List.drop_zero] at this
          exact this
      refine Ev.ite (fun hpos => ?_) (fun _ => goal)
      refine Ev.ite (fun _ => ?_) (fun h => absurd h (by omega))
      have hb : (bt s 0 == 45) = false := by
        rw [beq_eq_false_iff_ne]
        have hlt : 0 < s.size := by omega
        have := bt_is s 0 45 hlt
        intro e
        apply h45
        rw [List.head?_eq_getElem?]
        exact this.1 e
      rw [hb]
      exact goal
end Go.Proofs.YtjpihfjgomoijaaDoor.V
end
section
/- Lists of texts and their knots. -/
namespace Go.Proofs.YtjpihfjgomoijaaDoor.V
open Go.RowKit Go.Proofs.YtjpihfjgomoijaaDoorW.PrintWords Go.Proofs.YtjpihfjgomoijaaDoorW.PrintLast Go.Proofs.YtjpihfjgomoijaaDoorW.PrintMore Go.Proofs.YtjpihfjgomoijaaDoor.P Go.Proofs.YtjpihfjgomoijaaDoor.K Go.Proofs.YtjpihfjgomoijaaDoor.A
def total (l : List ByteArray) : Nat := (l.map fun s => s.size).sum
def datas (l : List ByteArray) : List (List UInt8) := l.map fun s => s.data.toList
theorem datas_B (ss : List (List UInt8)) : datas (ss.map B) = ss := by
  unfold datas; rw [List.map_map]
  conv => rhs; rw [← List.map_id ss]
  exact List.map_congr_left fun s _ => B_data s
theorem B_datas (l : List ByteArray) : (datas l).map B = l := by
  unfold datas; rw [List.map_map]
  conv => rhs; rw [← List.map_id l]
  exact List.map_congr_left fun s _ => B_of s
theorem tie_total (l : List ByteArray) (hr : ∀ x ∈ l, x.size ≤ reachBytes) : (tieD (datas l)).length ≤ total l + 22 * l.length := by
  have hreach : reachBytes = 140737488351232 := rfl
  induction l with
  | nil => simp [tieD, datas]
  | cons s l ih =>
    have h1 := ih (fun x hx => hr x (by simp [hx]))
    have h2 := hr s (by simp)
    have h3 := itoa_le s.size (by omega)
    have hz := Lib.size_eq s
    show (tieD (s.data.toList :: datas l)).length ≤ _
    rw [tie_cons, List.length_append, strand_length, ← hz]
    simp only [total, List.map_cons, List.sum_cons, List.length_cons] at h1 ⊢
    omega
theorem tie_small {l : List ByteArray} (hr : ∀ x ∈ l, x.size ≤ reachBytes) (h1 : l.length ≤ 100) (h2 : total l ≤ 20000) : (tieD (datas l)).length ≤ 22200 := by
  have := tie_total l hr; omega
theorem ktie {l : List ByteArray} (h : (tieD (datas l)).length ≤ 140737488355328) : knot_Tie.f l = some (B (tieD (datas l))) := tie_eq h
theorem rtie {l : List ByteArray} (h : (tieD (datas l)).length ≤ 140737488355328) : r01_Tie.f l = some (B (tieD (datas l))) := by
  unfold r01_Tie.f tieB; rw [if_pos (by unfold datas at h; omega)]; rfl
/-- Untie, of what was tied. -/
theorem untieR_tie {l : List ByteArray} (h1 : l.length ≤ 4096) (h2 : (tieD (datas l)).length ≤ 1048576) : untieR (B (tieD (datas l))) = (l, 0) := by
  unfold untieR
  rw [B_data, untieL_tie (datas l) (by simpa [datas] using h1) h2]
  simp only [B_datas]
theorem tie_mem {x : List UInt8} : ∀ {ss : List (List UInt8)}, x ∈ ss → x.length ≤ (tieD ss).length
  | y :: ss, h => by
    rw [tie_cons, List.length_append, strand_length]
    rcases List.mem_cons.1 h with rfl | h
    · omega
    · have := tie_mem h; omega
theorem total_mem {x : ByteArray} : ∀ {l : List ByteArray}, x ∈ l → x.size ≤ total l
  | y :: l, h => by
    simp only [total, List.map_cons, List.sum_cons]
    rcases List.mem_cons.1 h with rfl | h
    · omega
    · have := total_mem h; unfold total at this; omega
end Go.Proofs.YtjpihfjgomoijaaDoor.V
end
section
-- Written by a program of this session (wip/tools/pr.py), over the kit's printer; functions named in the texts imported below are given by hand.
namespace Go.Proofs.YtjpihfjgomoijaaDoor.P
open Go.RowKit Go.Proofs.YtjpihfjgomoijaaDoor.K Go.Proofs.YtjpihfjgomoijaaDoorW.PrintWords Go.Proofs.YtjpihfjgomoijaaDoorW.PrintLast Go.Proofs.YtjpihfjgomoijaaDoorW.PrintMore
attribute [local go_sem] max2_int min2_int max_two min_two max_three min_three max_four min_four   -- for this text's walks alone
/-! ### roll_within: function 39 -/
def roll_within.f (a0 : Int) (a1 : Int) (a2 : Int) : Option (Bool) := if a0 ≥ a1 then (some (decide (a0 ≤ a2))) else (some false)
set_option maxHeartbeats 8000000 in
set_option maxRecDepth 100000 in
theorem roll_within.calls (a0 : Int) (a1 : Int) (a2 : Int) (r : Bool) (w : World) (hG : TheG w) (h : roll_within.f a0 a1 a2 = some r) :
    Calls Tryd.prog 39 #[.int .i64 a0, .int .i64 a1, .int .i64 a2] w fun e w' => e = .returned (.bool r) ∧ Drawn0 w w' := by
  have H : (if a0 ≥ a1 then (some (decide (a0 ≤ a2))) else (some false)) = some r := h
  clear h
  by_cases c4 : a0 ≥ a1
  · rw [if_pos c4] at H
    have c4b0 : decide (a1 ≤ a0) = true := decide_eq_true c4
    clear c4
    obtain rfl := Option.some.inj H
    go_enter Tryd.func39, Tryd.ntmps39
    go_wp2
    go_ret
    exact ⟨by first | rfl | (simp; done) | (simp [*]; done), by repeat (first | exact Drawn0.refl _ | apply Drawn0.step)⟩
  · rw [if_neg c4] at H
    have c4b0 : decide (a1 ≤ a0) = false := decide_eq_false c4
    clear c4
    obtain rfl := Option.some.inj H
    go_enter Tryd.func39, Tryd.ntmps39
    go_wp2
    go_ret
    exact ⟨by first | rfl | (simp; done) | (simp [*]; done), by repeat (first | exact Drawn0.refl _ | apply Drawn0.step)⟩
end Go.Proofs.YtjpihfjgomoijaaDoor.P
end
section
-- Written by a program of this session (wip/tools/pr.py), over the kit's printer; functions named in the texts imported below are given by hand.
namespace Go.Proofs.YtjpihfjgomoijaaDoor.P
open Go.RowKit Go.Proofs.YtjpihfjgomoijaaDoor.K Go.Proofs.YtjpihfjgomoijaaDoorW.PrintWords Go.Proofs.YtjpihfjgomoijaaDoorW.PrintLast Go.Proofs.YtjpihfjgomoijaaDoorW.PrintMore
attribute [local go_sem] max2_int min2_int max_two min_two max_three min_three max_four min_four   -- for this text's walks alone
/-! ### roll_Check: function 13 -/
mutual
def roll_Check.j0 : Nat → Bool → Int → Int → List (S54) → Option (Int)
  | 0, _, _, _, _ => none
  | k + 1, x24, x104000, x104001, x104002 => if x24 = true then (some 110) else (roll_Check.l0 k x104001 x104002 (x104002.length : Int) 0)
def roll_Check.l0 : Nat → Int → List (S54) → Int → Int → Option (Int)
  | 0, _, _, _, _ => none
  | k + 1, x3, x28, x29, x30 => if x30 < x29 then (if 0 ≤ x30 then (if x30 < (x28.length : Int) then ((roll_within.f ((rd_T54 x28 x30).f0) x3 1099511627776).bind fun t108 => (if t108 = true then (roll_Check.l0 k ((rd_T54 x28 x30).f0) x28 x29 (wrap64 (x30 + 1))) else (some 110))) else (none)) else (none)) else (some 0)
end
def roll_Check.f (k : Nat) (a0_0 : Int) (a0_1 : Int) (l0_2 : List (S54)) : Option (Int) := (roll_within.f a0_0 0 1099511627776).bind fun t104 => (if t104 = true then ((roll_within.f a0_1 0 1099511627776).bind fun t105 => (if t105 = true then (roll_Check.j0 k (decide ((l0_2.length : Int) > (wrap64 (1099511627776 - a0_0)))) a0_0 a0_1 l0_2) else (roll_Check.j0 k true a0_0 a0_1 l0_2))) else (roll_Check.j0 k true a0_0 a0_1 l0_2))
theorem roll_Check.mono_l : ∀ k, (∀ y0 y1 y2 y3, LeO (roll_Check.j0 k y0 y1 y2 y3) (roll_Check.j0 (k + 1) y0 y1 y2 y3)) ∧ (∀ y0 y1 y2 y3, LeO (roll_Check.l0 k y0 y1 y2 y3) (roll_Check.l0 (k + 1) y0 y1 y2 y3))
  | 0 => ⟨fun _ _ _ _ r h => by simp [roll_Check.j0] at h, fun _ _ _ _ r h => by simp [roll_Check.l0] at h⟩
  | k + 1 => by
    obtain ⟨ih0, ih1⟩ := roll_Check.mono_l k
    refine ⟨?_, ?_⟩
    · intro y0 y1 y2 y3
      unfold roll_Check.j0
      repeat' first
      | (with_reducible exact ih0 _ _ _ _)
      | (with_reducible exact ih1 _ _ _ _)
      | (with_reducible exact LeO.refl _)
      | (with_reducible exact LeO.none _)
      | (with_reducible refine LeO.ite ?_ ?_)
      | (with_reducible refine LeO.bind ?_ (fun _ => ?_))
      | exact ih0 _ _ _ _
      | exact ih1 _ _ _ _
      | exact LeO.none _
      | refine LeO.ite ?_ ?_
      | refine LeO.bind ?_ (fun _ => ?_)
    · intro y0 y1 y2 y3
      unfold roll_Check.l0
      repeat' first
      | (with_reducible exact ih0 _ _ _ _)
      | (with_reducible exact ih1 _ _ _ _)
      | (with_reducible exact LeO.refl _)
      | (with_reducible exact LeO.none _)
      | (with_reducible refine LeO.ite ?_ ?_)
      | (with_reducible refine LeO.bind ?_ (fun _ => ?_))
      | exact ih0 _ _ _ _
      | exact ih1 _ _ _ _
      | exact LeO.none _
      | refine LeO.ite ?_ ?_
      | refine LeO.bind ?_ (fun _ => ?_)
theorem roll_Check.mono : ∀ a0 a1 a2 k, LeO (roll_Check.f k a0 a1 a2) (roll_Check.f (k + 1) a0 a1 a2) := by
  intro a0 a1 a2 k
  obtain ⟨ih0, ih1⟩ := roll_Check.mono_l k
  unfold roll_Check.f
  repeat' first
      | (with_reducible exact ih0 _ _ _ _)
      | (with_reducible exact ih1 _ _ _ _)
      | (with_reducible exact LeO.refl _)
      | (with_reducible exact LeO.none _)
      | (with_reducible refine LeO.ite ?_ ?_)
      | (with_reducible refine LeO.bind ?_ (fun _ => ?_))
      | exact ih0 _ _ _ _
      | exact ih1 _ _ _ _
      | exact LeO.none _
      | refine LeO.ite ?_ ?_
      | refine LeO.bind ?_ (fun _ => ?_)
set_option maxHeartbeats 8000000 in
set_option maxRecDepth 100000 in
theorem roll_Check.calls (k : Nat) (a0_0 : Int) (a0_1 : Int) (A0_2 : Option Addr) (c0_2 : Nat) (l0_2 : List (S54)) (r : Int) (w : World) (hG : TheG w) (hr0_2 : Kd.C k54 w A0_2 l0_2.length l0_2) (hc0_2 : l0_2.length ≤ c0_2) (h : roll_Check.f k a0_0 a0_1 l0_2 = some r) :
    Calls Tryd.prog 13 #[.agg #[.int .i64 a0_0, .int .i64 a0_1, .slice A0_2 l0_2.length c0_2]] w fun e w' => e = .returned (.int .i64 r) ∧ Below w.heap.size w w' := by
  have hu24 := Tryd.underlying24
  have hu54 := Tryd.underlying54
  have HR0_2 := Az.mk hr0_2
  have HC0_2 := Az.mk hc0_2
  clear hr0_2 hc0_2
  have HB := Az.mk (Below.refl w.heap.size w)
  have H : ((roll_within.f a0_0 0 1099511627776).bind fun t104 => (if t104 = true then ((roll_within.f a0_1 0 1099511627776).bind fun t105 => (if t105 = true then (roll_Check.j0 k (decide ((l0_2.length : Int) > (wrap64 (1099511627776 - a0_0)))) a0_0 a0_1 l0_2) else (roll_Check.j0 k true a0_0 a0_1 l0_2))) else (roll_Check.j0 k true a0_0 a0_1 l0_2))) = some r := h
  clear h
  have HC2 := Az.mk H
  clear H
  go_enter Tryd.func13, Tryd.ntmps13
  go_upto_region 1 with (first | ((with_reducible refine gate_dst (N := 1) rfl ?_); (try (refine gate_guard (by rfl) ?_; dsimp only)); refine box_event ?hg (N := 1) ?hd (cs := #[.int .i64 a0_0, .int .i64 a0_1, .slice A0_2 l0_2.length c0_2]) (t := 24) ?hr ?_; (case hd => rfl); (case hg => rfl); (case hr => first | (go_simp; done) | (go_simp; rfl)); intro gb103 hg w3 hbox hb; have n0_ := Az.mk (pbT (by repeat (first | (with_reducible first | exact HB.out | apply pbA | apply pbN | apply pb1) | exact HB.out)) hb); have n1_ := Az.mk (hbox); have n2_ := Az.mk ((by rw [hg]; exact (pbZ (by repeat (first | (with_reducible first | exact HB.out | apply pbA | apply pbN | apply pb1) | exact HB.out))) : w.heap.size ≤ gb103)); have n3_ := Az.mk ((by rw [hg]; exact (pbZ (by repeat (first | (with_reducible first | exact HB.out | apply pbA | apply pbN | apply pb1) | exact HB.out))) : w.heap.size ≤ gb103)); clear HB; have HB := n0_; have BK103 := n1_; have GW103 := n2_; have GE103 := n3_; clear n0_ n1_ n2_ n3_; clear hb hbox hg))
  (try simp only [Act.put, List.setIfInBounds_toArray, List.set_cons_zero, List.set_cons_succ])
  go_cut [24] (fun v24 wc => ∃ (kq : Nat) (x24_1 : Bool), v24 = .bool x24_1 ∧ Az (roll_Check.j0 kq x24_1 a0_0 a0_1 l0_2 = some r) ∧ Az (kq ≤ k) ∧ Az (wc.heap[gb103]? = some (.cells #[.int .i64 a0_0, .int .i64 a0_1, (.slice A0_2 l0_2.length c0_2)] 24 (0, 0))) ∧ Az (Below w.heap.size w wc))
  case first =>
    have H := HC2.out
    clear HC2
    replace H := Option.bind_eq_some_iff.mp H
    obtain ⟨t104, A40, H⟩ := H
    replace H : (if t104 = true then ((roll_within.f a0_1 0 1099511627776).bind fun t105 => (if t105 = true then (roll_Check.j0 k (decide ((l0_2.length : Int) > (wrap64 (1099511627776 - a0_0)))) a0_0 a0_1 l0_2) else (roll_Check.j0 k true a0_0 a0_1 l0_2))) else (roll_Check.j0 k true a0_0 a0_1 l0_2)) = some r := H
    have A4 := Az.mk A40
    clear A40
    by_cases c5 : t104 = true
    · subst c5
      have H1 : ((roll_within.f a0_1 0 1099511627776).bind fun t105 => (if t105 = true then (roll_Check.j0 k (decide ((l0_2.length : Int) > (wrap64 (1099511627776 - a0_0)))) a0_0 a0_1 l0_2) else (roll_Check.j0 k true a0_0 a0_1 l0_2))) = some r := by rw [if_pos rfl] at H; exact H
      clear H
      have H := H1
      clear H1
      replace H := Option.bind_eq_some_iff.mp H
      obtain ⟨t105, A60, H⟩ := H
      replace H : (if t105 = true then (roll_Check.j0 k (decide ((l0_2.length : Int) > (wrap64 (1099511627776 - a0_0)))) a0_0 a0_1 l0_2) else (roll_Check.j0 k true a0_0 a0_1 l0_2)) = some r := H
      have A6 := Az.mk A60
      clear A60
      by_cases c7 : t105 = true
      · subst c7
        have H1 : (roll_Check.j0 k (decide ((l0_2.length : Int) > (wrap64 (1099511627776 - a0_0)))) a0_0 a0_1 l0_2) = some r := by rw [if_pos rfl] at H; exact H
        clear H
        have H := H1
        clear H1
        have H' := Az.mk H
        clear H
        have hcz8_0 : w3.cell? ⟨gb103, 0, none⟩ = some (.int .i64 a0_0) := (bkC BK103.out 0).trans rfl
        have hcz8_1 : w3.cell? ⟨gb103, 1, none⟩ = some (.int .i64 a0_1) := (bkC BK103.out 1).trans rfl
        have hcz8_2 : w3.cell? ⟨gb103, 2, none⟩ = some (.slice A0_2 l0_2.length c0_2) := (bkC BK103.out 2).trans rfl
        have hfz8_0 := bkF BK103.out 0
        have hfz8_1 := bkF BK103.out 1
        have hfz8_2 := bkF BK103.out 2
        go_wp2_with (first | ((with_reducible refine gtc (f := 39) rfl ?_); refine goesL_ (some 8) rfl rfl Tryd.func39 (by kernel_rfl) rfl #[.int .i64 a0_0, .int .i64 0, .int .i64 1099511627776] rfl (by (try simp only [List.map_toArray, List.map_cons, List.map_nil]); first | done | rfl | (simp only [List.length_drop, List.length_take]; rfl)) ?_; (with_reducible refine (roll_within.calls a0_0 0 1099511627776 true _ ?side1 A4.out).mono ?_); (case side1 => exact hG.below (by repeat (first | (with_reducible first | exact HB.out | apply pbA | apply pbN | apply pb1 | refine pbS ?_ GE103.out) | exact HB.out))); rintro e w' ⟨rfl, ⟨nd, rfl⟩⟩; refine ⟨_, rfl, ?_⟩) | (go_at_call 39; (with_reducible refine (roll_within.calls a0_1 0 1099511627776 true _ ?side1 A6.out).mono ?_); (case side1 => exact hG.below (by repeat (first | (with_reducible first | exact HB.out | apply pbA | apply pbN | apply pb1 | refine pbS ?_ GE103.out) | exact HB.out))); rintro e w' ⟨rfl, ⟨nd, rfl⟩⟩))
        go_meet
        case rel => exact ⟨_, (decide ((l0_2.length : Int) > (wrap64 (1099511627776 - a0_0)))), (by first | rfl | (simp; done) | (simp [*]; done)), H', ⟨by first | omega | exact Nat.le_refl _⟩, ⟨by (with_reducible repeat (first | refine bkN ?_ _ | refine bkD ?_ | refine bkA ?_ _)); exact BK103.out⟩, ⟨by repeat (first | (with_reducible first | exact HB.out | apply pbA | apply pbN | apply pb1 | refine pbS ?_ GE103.out) | exact HB.out)⟩⟩
      · replace c7 := Bool.eq_false_iff.mpr c7
        subst c7
        have H1 : (roll_Check.j0 k true a0_0 a0_1 l0_2) = some r := by rw [if_neg (show ¬ (false = true) by decide)] at H; exact H
        clear H
        have H := H1
        clear H1
        have H' := Az.mk H
        clear H
        have hcz9_0 : w3.cell? ⟨gb103, 0, none⟩ = some (.int .i64 a0_0) := (bkC BK103.out 0).trans rfl
        have hcz9_1 : w3.cell? ⟨gb103, 1, none⟩ = some (.int .i64 a0_1) := (bkC BK103.out 1).trans rfl
        have hcz9_2 : w3.cell? ⟨gb103, 2, none⟩ = some (.slice A0_2 l0_2.length c0_2) := (bkC BK103.out 2).trans rfl
        have hfz9_0 := bkF BK103.out 0
        have hfz9_1 := bkF BK103.out 1
        have hfz9_2 := bkF BK103.out 2
        go_wp2_with (first | ((with_reducible refine gtc (f := 39) rfl ?_); refine goesL_ (some 8) rfl rfl Tryd.func39 (by kernel_rfl) rfl #[.int .i64 a0_0, .int .i64 0, .int .i64 1099511627776] rfl (by (try simp only [List.map_toArray, List.map_cons, List.map_nil]); first | done | rfl | (simp only [List.length_drop, List.length_take]; rfl)) ?_; (with_reducible refine (roll_within.calls a0_0 0 1099511627776 true _ ?side1 A4.out).mono ?_); (case side1 => exact hG.below (by repeat (first | (with_reducible first | exact HB.out | apply pbA | apply pbN | apply pb1 | refine pbS ?_ GE103.out) | exact HB.out))); rintro e w' ⟨rfl, ⟨nd, rfl⟩⟩; refine ⟨_, rfl, ?_⟩) | (go_at_call 39; (with_reducible refine (roll_within.calls a0_1 0 1099511627776 false _ ?side1 A6.out).mono ?_); (case side1 => exact hG.below (by repeat (first | (with_reducible first | exact HB.out | apply pbA | apply pbN | apply pb1 | refine pbS ?_ GE103.out) | exact HB.out))); rintro e w' ⟨rfl, ⟨nd, rfl⟩⟩))
        go_meet
        case rel => exact ⟨_, (true), (by first | rfl | (simp; done) | (simp [*]; done)), H', ⟨by first | omega | exact Nat.le_refl _⟩, ⟨by (with_reducible repeat (first | refine bkN ?_ _ | refine bkD ?_ | refine bkA ?_ _)); exact BK103.out⟩, ⟨by repeat (first | (with_reducible first | exact HB.out | apply pbA | apply pbN | apply pb1 | refine pbS ?_ GE103.out) | exact HB.out)⟩⟩
    · replace c5 := Bool.eq_false_iff.mpr c5
      subst c5
      have H1 : (roll_Check.j0 k true a0_0 a0_1 l0_2) = some r := by rw [if_neg (show ¬ (false = true) by decide)] at H; exact H
      clear H
      have H := H1
      clear H1
      have H' := Az.mk H
      clear H
      have hcz10_0 : w3.cell? ⟨gb103, 0, none⟩ = some (.int .i64 a0_0) := (bkC BK103.out 0).trans rfl
      have hcz10_1 : w3.cell? ⟨gb103, 1, none⟩ = some (.int .i64 a0_1) := (bkC BK103.out 1).trans rfl
      have hcz10_2 : w3.cell? ⟨gb103, 2, none⟩ = some (.slice A0_2 l0_2.length c0_2) := (bkC BK103.out 2).trans rfl
      have hfz10_0 := bkF BK103.out 0
      have hfz10_1 := bkF BK103.out 1
      have hfz10_2 := bkF BK103.out 2
      go_wp2_with (first | ((with_reducible refine gtc (f := 39) rfl ?_); refine goesL_ (some 8) rfl rfl Tryd.func39 (by kernel_rfl) rfl #[.int .i64 a0_0, .int .i64 0, .int .i64 1099511627776] rfl (by (try simp only [List.map_toArray, List.map_cons, List.map_nil]); first | done | rfl | (simp only [List.length_drop, List.length_take]; rfl)) ?_; (with_reducible refine (roll_within.calls a0_0 0 1099511627776 false _ ?side1 A4.out).mono ?_); (case side1 => exact hG.below (by repeat (first | (with_reducible first | exact HB.out | apply pbA | apply pbN | apply pb1 | refine pbS ?_ GE103.out) | exact HB.out))); rintro e w' ⟨rfl, ⟨nd, rfl⟩⟩; refine ⟨_, rfl, ?_⟩))
      go_meet
      case rel => exact ⟨_, (true), (by first | rfl | (simp; done) | (simp [*]; done)), H', ⟨by first | omega | exact Nat.le_refl _⟩, ⟨by (with_reducible repeat (first | refine bkN ?_ _ | refine bkD ?_ | refine bkA ?_ _)); exact BK103.out⟩, ⟨by repeat (first | (with_reducible first | exact HB.out | apply pbA | apply pbN | apply pb1 | refine pbS ?_ GE103.out) | exact HB.out)⟩⟩
  case rest =>
    clear HC2
    try clear c1
    try clear p2
    try clear c3
    try clear c5
    try clear p6
    try clear c7
    try clear hcz10_0
    try clear hcz10_1
    try clear hcz10_2
    try clear hcz8_0
    try clear hcz8_1
    try clear hcz8_2
    try clear hcz9_0
    try clear hcz9_1
    try clear hcz9_2
    try clear hfz10_0
    try clear hfz10_1
    try clear hfz10_2
    try clear hfz8_0
    try clear hfz8_1
    try clear hfz8_2
    try clear hfz9_0
    try clear hfz9_1
    try clear hfz9_2
    obtain ⟨kq, x24_1, rfl, HA, HJ1, BK103, HB⟩ := hcut
    cases kq with
    | zero => exact absurd HA.out (by simp [roll_Check.j0])
    | succ kj1 =>
      have H := HA.out
      clear HA
      simp only [roll_Check.j0] at H
      by_cases c11 : x24_1 = true
      · subst c11
        have H1 : (some 110) = some r := by rw [if_pos rfl] at H; exact H
        clear H
        have H := H1
        clear H1
        obtain rfl := Option.some.inj H
        go_wp2
        go_ret
        exact ⟨by first | rfl | (simp [errW_none, errW_some] <;> rfl) | (simp [*, errW_none, errW_some] <;> rfl), by repeat (first | (with_reducible first | exact HB.out | apply pbA | apply pbN | apply pb1 | refine pbS ?_ GE103.out) | exact HB.out)⟩
      · replace c11 := Bool.eq_false_iff.mpr c11
        subst c11
        have H1 : (roll_Check.l0 kj1 a0_1 l0_2 (l0_2.length : Int) 0) = some r := by rw [if_neg (show ¬ (false = true) by decide)] at H; exact H
        clear H
        have H := H1
        clear H1
        have H' := Az.mk H
        clear H
        have hcz12_0 : wc.cell? ⟨gb103, 0, none⟩ = some (.int .i64 a0_0) := (bkC BK103.out 0).trans rfl
        have hcz12_1 : wc.cell? ⟨gb103, 1, none⟩ = some (.int .i64 a0_1) := (bkC BK103.out 1).trans rfl
        have hcz12_2 : wc.cell? ⟨gb103, 2, none⟩ = some (.slice A0_2 l0_2.length c0_2) := (bkC BK103.out 2).trans rfl
        have hfz12_0 := bkF BK103.out 0
        have hfz12_1 := bkF BK103.out 1
        have hfz12_2 := bkF BK103.out 2
        go_wp2
        go_loopg [3, 30] kj1 (fun kq v3 v30 w' => ∃ (x3_2 : Int) (x30_2 : Int), v3 = .int .i64 x3_2 ∧ v30 = .int .i64 x30_2 ∧ Az (roll_Check.l0 kq x3_2 l0_2 (l0_2.length : Int) x30_2 = some r) ∧ Az (kq ≤ kj1) ∧ Az (w'.heap[gb103]? = some (.cells #[.int .i64 a0_0, .int .i64 a0_1, (.slice A0_2 l0_2.length c0_2)] 24 (0, 0))) ∧ Az (Below w.heap.size w w'))
        case atStart => exact ⟨(a0_1), (0), (by first | rfl | (simp; done) | (simp [*]; done)), (by first | rfl | (simp; done) | (simp [*]; done)), H', ⟨Nat.le_refl _⟩, ⟨by (with_reducible repeat (first | refine bkN ?_ _ | refine bkD ?_ | refine bkA ?_ _)); exact BK103.out⟩, ⟨by repeat (first | (with_reducible first | exact HB.out | apply pbA | apply pbN | apply pb1 | refine pbS ?_ GE103.out) | exact HB.out)⟩⟩
        case round =>
          clear H'
          try clear c1
          try clear p2
          try clear c3
          try clear c5
          try clear p6
          try clear c7
          try clear c11
          try clear hcz10_0
          try clear hcz10_1
          try clear hcz10_2
          try clear hcz12_0
          try clear hcz12_1
          try clear hcz12_2
          try clear hcz8_0
          try clear hcz8_1
          try clear hcz8_2
          try clear hcz9_0
          try clear hcz9_1
          try clear hcz9_2
          try clear hfz10_0
          try clear hfz10_1
          try clear hfz10_2
          try clear hfz12_0
          try clear hfz12_1
          try clear hfz12_2
          try clear hfz8_0
          try clear hfz8_1
          try clear hfz8_2
          try clear hfz9_0
          try clear hfz9_1
          try clear hfz9_2
          try clear p2
          try clear p6
          obtain ⟨x3_2, x30_2, rfl, rfl, HA, HK2, BK103, HB⟩ := hrel
          cases gk with
          | zero => exact absurd HA.out (by simp [roll_Check.l0])
          | succ k2 =>
            have H := HA.out
            clear HA
            simp only [roll_Check.l0] at H
            by_cases c13 : x30_2 < (l0_2.length : Int)
            · rw [if_pos c13] at H
              have c13b0 : decide (x30_2 < (l0_2.length : Int)) = true := decide_eq_true c13
              clear c13
              by_cases c14 : 0 ≤ x30_2
              · rw [if_pos c14] at H
                have c14b0 : decide (0 ≤ x30_2) = true := decide_eq_true c14
                clear c14
                by_cases c15 : x30_2 < (l0_2.length : Int)
                · rw [if_pos c15] at H
                  have c15b0 : decide (x30_2 < (l0_2.length : Int)) = true := decide_eq_true c15
                  clear c15
                  replace H := Option.bind_eq_some_iff.mp H
                  obtain ⟨t108, A160, H⟩ := H
                  replace H : (if t108 = true then (roll_Check.l0 k2 ((rd_T54 l0_2 x30_2).f0) l0_2 (l0_2.length : Int) (wrap64 (x30_2 + 1))) else (some 110)) = some r := H
                  have A16 := Az.mk A160
                  clear A160
                  by_cases c17 : t108 = true
                  · subst c17
                    have H1 : (roll_Check.l0 k2 ((rd_T54 l0_2 x30_2).f0) l0_2 (l0_2.length : Int) (wrap64 (x30_2 + 1))) = some r := by rw [if_pos rfl] at H; exact H
                    clear H
                    have H := H1
                    clear H1
                    have H' := Az.mk H
                    clear H
                    have p106 : 0 ≤ (x30_2 : Int) := of_decide_eq_true (by first | (with_reducible assumption) | assumption)
                    have q106 : x30_2 < (l0_2.length : Int) := of_decide_eq_true (by first | (with_reducible assumption) | assumption)
                    obtain ⟨ad106, e106, hx106_0, hx106_1⟩ := at_T54 HR0_2.out x30_2 p106 q106
                    cases e106
                    replace hx106_0 := (HB.out.cell (World.block_lt_of_cell? w _ hx106_0)).trans hx106_0
                    replace hx106_1 := (HB.out.cell (World.block_lt_of_cell? w _ hx106_1)).trans hx106_1
                    replace p106 := eq_true p106
                    replace q106 := eq_true q106
                    go_wp2_with (first | ((with_reducible refine gate_dst (N := 5) rfl ?_); (try (refine gate_guard (by rfl) ?_; dsimp only)); refine box_event ?hg (N := 5) ?hd (cs := #[.int .i64 0, .string (⟨#[]⟩ : ByteArray)]) (t := 54) ?hr ?_; (case hd => rfl); (case hg => rfl); (case hr => first | (go_simp; done) | (go_simp; rfl)); intro gb107 hg w18 hbox hb; have n0_ := Az.mk (bkB (g := gb103) (o := .cells #[.int .i64 a0_0, .int .i64 a0_1, .slice (some ad106) l0_2.length c0_2] 24 (0, 0)) (by (with_reducible repeat (first | refine bkN ?_ _ | refine bkD ?_ | refine bkA ?_ _)); exact BK103.out) hb); have n1_ := Az.mk (pbT (by repeat (first | (with_reducible first | exact HB.out | apply pbA | apply pbN | apply pb1 | refine pbS ?_ GE103.out) | exact HB.out)) hb); have n2_ := Az.mk (hbox); have n3_ := Az.mk ((by rw [hg]; exact (pbZ (by repeat (first | (with_reducible first | exact HB.out | apply pbA | apply pbN | apply pb1 | refine pbS ?_ GE103.out) | exact HB.out))) : w.heap.size ≤ gb107)); have n4_ := Az.mk ((by rw [hg]; exact (pbZ (by repeat (first | (with_reducible first | exact HB.out | apply pbA | apply pbN | apply pb1 | refine pbS ?_ GE103.out) | exact HB.out))) : w.heap.size ≤ gb107)); have n5_ := Az.mk ((by rw [hg]; exact Nat.ne_of_lt (blk_lt (g := gb103) (o := .cells #[.int .i64 a0_0, .int .i64 a0_1, .slice (some ad106) l0_2.length c0_2] 24 (0, 0)) (by (with_reducible repeat (first | refine bkN ?_ _ | refine bkD ?_ | refine bkA ?_ _)); exact BK103.out)) : gb103 ≠ gb107)); have n6_ := Az.mk ((by rw [hg]; exact Nat.ne_of_gt (blk_lt (g := gb103) (o := .cells #[.int .i64 a0_0, .int .i64 a0_1, .slice (some ad106) l0_2.length c0_2] 24 (0, 0)) (by (with_reducible repeat (first | refine bkN ?_ _ | refine bkD ?_ | refine bkA ?_ _)); exact BK103.out)) : gb107 ≠ gb103)); clear BK103; clear HB; have BK103 := n0_; have HB := n1_; have BK107 := n2_; have GW107 := n3_; have GE107 := n4_; have NB103_107 := n5_; have NB107_103 := n6_; clear n0_ n1_ n2_ n3_ n4_ n5_ n6_; clear hb hbox hg; have hnb19 := NB107_103.out; have hnc19 := NB103_107.out; have hcz20_0 : w18.cell? ⟨gb107, 0, none⟩ = some (.int .i64 0) := (bkC BK107.out 0).trans rfl; have hcz20_1 : w18.cell? ⟨gb107, 1, none⟩ = some (.string (⟨#[]⟩ : ByteArray)) := (bkC BK107.out 1).trans rfl; have hfz20_0 := bkF BK107.out 0; have hfz20_1 := bkF BK107.out 1) | ((with_reducible refine gtc (f := 39) rfl ?_); refine goesL_ (some 37) rfl rfl Tryd.func39 (by kernel_rfl) rfl #[.int .i64 ((rd_T54 l0_2 x30_2).f0), .int .i64 x3_2, .int .i64 1099511627776] rfl (by (try simp only [List.map_toArray, List.map_cons, List.map_nil]); first | done | rfl | (simp only [List.length_drop, List.length_take]; rfl)) ?_; (with_reducible refine (roll_within.calls ((rd_T54 l0_2 x30_2).f0) x3_2 1099511627776 true _ ?side1 A16.out).mono ?_); (case side1 => exact hG.below (by repeat (first | (with_reducible first | exact HB.out | apply pbA | apply pbN | apply pb1 | refine pbS ?_ GE103.out | refine pbS ?_ GE107.out) | exact HB.out))); rintro e w' ⟨rfl, ⟨nd, rfl⟩⟩; refine ⟨_, rfl, ?_⟩))
                    go_roundg k2
                    case measure => have := HJ1.out; have := HK2.out; omega
                    case rel => exact ⟨((rd_T54 l0_2 x30_2).f0), (wrap64 (x30_2 + 1)), (by first | rfl | (simp; done) | (simp [*]; done)), (by first | rfl | (simp; done) | (simp [*]; done)), H', ⟨by have := HJ1.out; have := HK2.out; omega⟩, ⟨by (with_reducible repeat (first | refine bkN ?_ _ | refine bkD ?_ | refine bkA ?_ _)); refine blk_far ?_ NB103_107.out _; (with_reducible repeat (first | refine bkN ?_ _ | refine bkD ?_ | refine bkA ?_ _)); refine blk_far ?_ NB103_107.out _; (with_reducible repeat (first | refine bkN ?_ _ | refine bkD ?_ | refine bkA ?_ _)); exact BK103.out⟩, ⟨by repeat (first | (with_reducible first | exact HB.out | apply pbA | apply pbN | apply pb1 | refine pbS ?_ GE103.out | refine pbS ?_ GE107.out) | exact HB.out)⟩⟩
                  · replace c17 := Bool.eq_false_iff.mpr c17
                    subst c17
                    have H1 : (some 110) = some r := by rw [if_neg (show ¬ (false = true) by decide)] at H; exact H
                    clear H
                    have H := H1
                    clear H1
                    obtain rfl := Option.some.inj H
                    have p106 : 0 ≤ (x30_2 : Int) := of_decide_eq_true (by first | (with_reducible assumption) | assumption)
                    have q106 : x30_2 < (l0_2.length : Int) := of_decide_eq_true (by first | (with_reducible assumption) | assumption)
                    obtain ⟨ad106, e106, hx106_0, hx106_1⟩ := at_T54 HR0_2.out x30_2 p106 q106
                    cases e106
                    replace hx106_0 := (HB.out.cell (World.block_lt_of_cell? w _ hx106_0)).trans hx106_0
                    replace hx106_1 := (HB.out.cell (World.block_lt_of_cell? w _ hx106_1)).trans hx106_1
                    replace p106 := eq_true p106
                    replace q106 := eq_true q106
                    go_wp2_with (first | ((with_reducible refine gate_dst (N := 5) rfl ?_); (try (refine gate_guard (by rfl) ?_; dsimp only)); refine box_event ?hg (N := 5) ?hd (cs := #[.int .i64 0, .string (⟨#[]⟩ : ByteArray)]) (t := 54) ?hr ?_; (case hd => rfl); (case hg => rfl); (case hr => first | (go_simp; done) | (go_simp; rfl)); intro gb107 hg w21 hbox hb; have n0_ := Az.mk (bkB (g := gb103) (o := .cells #[.int .i64 a0_0, .int .i64 a0_1, .slice (some ad106) l0_2.length c0_2] 24 (0, 0)) (by (with_reducible repeat (first | refine bkN ?_ _ | refine bkD ?_ | refine bkA ?_ _)); exact BK103.out) hb); have n1_ := Az.mk (pbT (by repeat (first | (with_reducible first | exact HB.out | apply pbA | apply pbN | apply pb1 | refine pbS ?_ GE103.out) | exact HB.out)) hb); have n2_ := Az.mk (hbox); have n3_ := Az.mk ((by rw [hg]; exact (pbZ (by repeat (first | (with_reducible first | exact HB.out | apply pbA | apply pbN | apply pb1 | refine pbS ?_ GE103.out) | exact HB.out))) : w.heap.size ≤ gb107)); have n4_ := Az.mk ((by rw [hg]; exact (pbZ (by repeat (first | (with_reducible first | exact HB.out | apply pbA | apply pbN | apply pb1 | refine pbS ?_ GE103.out) | exact HB.out))) : w.heap.size ≤ gb107)); have n5_ := Az.mk ((by rw [hg]; exact Nat.ne_of_lt (blk_lt (g := gb103) (o := .cells #[.int .i64 a0_0, .int .i64 a0_1, .slice (some ad106) l0_2.length c0_2] 24 (0, 0)) (by (with_reducible repeat (first | refine bkN ?_ _ | refine bkD ?_ | refine bkA ?_ _)); exact BK103.out)) : gb103 ≠ gb107)); have n6_ := Az.mk ((by rw [hg]; exact Nat.ne_of_gt (blk_lt (g := gb103) (o := .cells #[.int .i64 a0_0, .int .i64 a0_1, .slice (some ad106) l0_2.length c0_2] 24 (0, 0)) (by (with_reducible repeat (first | refine bkN ?_ _ | refine bkD ?_ | refine bkA ?_ _)); exact BK103.out)) : gb107 ≠ gb103)); clear BK103; clear HB; have BK103 := n0_; have HB := n1_; have BK107 := n2_; have GW107 := n3_; have GE107 := n4_; have NB103_107 := n5_; have NB107_103 := n6_; clear n0_ n1_ n2_ n3_ n4_ n5_ n6_; clear hb hbox hg; have hnb22 := NB107_103.out; have hnc22 := NB103_107.out; have hcz23_0 : w21.cell? ⟨gb107, 0, none⟩ = some (.int .i64 0) := (bkC BK107.out 0).trans rfl; have hcz23_1 : w21.cell? ⟨gb107, 1, none⟩ = some (.string (⟨#[]⟩ : ByteArray)) := (bkC BK107.out 1).trans rfl; have hfz23_0 := bkF BK107.out 0; have hfz23_1 := bkF BK107.out 1) | ((with_reducible refine gtc (f := 39) rfl ?_); refine goesL_ (some 37) rfl rfl Tryd.func39 (by kernel_rfl) rfl #[.int .i64 ((rd_T54 l0_2 x30_2).f0), .int .i64 x3_2, .int .i64 1099511627776] rfl (by (try simp only [List.map_toArray, List.map_cons, List.map_nil]); first | done | rfl | (simp only [List.length_drop, List.length_take]; rfl)) ?_; (with_reducible refine (roll_within.calls ((rd_T54 l0_2 x30_2).f0) x3_2 1099511627776 false _ ?side1 A16.out).mono ?_); (case side1 => exact hG.below (by repeat (first | (with_reducible first | exact HB.out | apply pbA | apply pbN | apply pb1 | refine pbS ?_ GE103.out | refine pbS ?_ GE107.out) | exact HB.out))); rintro e w' ⟨rfl, ⟨nd, rfl⟩⟩; refine ⟨_, rfl, ?_⟩))
                    go_ret
                    exact ⟨by first | rfl | (simp [errW_none, errW_some] <;> rfl) | (simp [*, errW_none, errW_some] <;> rfl), by repeat (first | (with_reducible first | exact HB.out | apply pbA | apply pbN | apply pb1 | refine pbS ?_ GE103.out | refine pbS ?_ GE107.out) | exact HB.out)⟩
                · rw [if_neg c15] at H
                  exact absurd H (by simp)
              · rw [if_neg c14] at H
                exact absurd H (by simp)
            · rw [if_neg c13] at H
              have c13b0 : decide (x30_2 < (l0_2.length : Int)) = false := decide_eq_false c13
              clear c13
              obtain rfl := Option.some.inj H
              go_wp2
              go_ret
              exact ⟨by first | rfl | (simp [errW_none, errW_some] <;> rfl) | (simp [*, errW_none, errW_some] <;> rfl), by repeat (first | (with_reducible first | exact HB.out | apply pbA | apply pbN | apply pb1 | refine pbS ?_ GE103.out) | exact HB.out)⟩
end Go.Proofs.YtjpihfjgomoijaaDoor.P
end
