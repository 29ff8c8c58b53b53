-- Written by a program of this session (wip/tools/pr.py), over the kit's printer; functions named in the texts imported below are given by hand.
import Derived.Test.YthijgcnmbfhjjaaDoorProg
import Derived.Below
import Derived.Deep.Draws
import Derived.Deep.AppendLies
import Derived.Maps.AppendAt
import Derived.OwnWalk
import Derived.Laws.BytesArg
import Derived.Laws.MakeOwn
import Derived.Laws.OwnMore
import Derived.Deep.OwnRows
import Derived.Tactics
import Derived.Lib.ConvBytes
import Derived.Laws.Slices
import Derived.WalkKit
import Derived.KernelRfl
import Derived.RowKit3
import Derived.Deep.LoopGhost
import Derived.Deep.QuietTactic
import Derived.BigQuiet
import Derived.WideLaws
import Derived.Deep.DeepCutAuto
import Derived.Deep.CutBlock
import Derived.Deep.RegionHeld3
import Derived.Laws.Rows
import Derived.Lib.AppendStr
import Derived.ArgAppend
import Derived.Laws.IdiomCopy
import Derived.OrdersHeld
import Derived.Laws.BitsLemmas
import Derived.RowKit
import Derived.Test.YthijgcnmbfhjjaaDoorKr
import Derived.Test.YthijgcnmbfhjjaaDoorWWords
import Derived.Test.YthijgcnmbfhjjaaDoorWLast
import Derived.Test.YthijgcnmbfhjjaaDoorWTab
import Derived.Test.YthijgcnmbfhjjaaDoorWFour
import Derived.Test.YthijgcnmbfhjjaaDoorWQPut
import Derived.Test.YthijgcnmbfhjjaaDoorWApart
import Derived.Test.YthijgcnmbfhjjaaDoorWArr
import Derived.Test.YthijgcnmbfhjjaaDoorWZeros
import Derived.Test.YthijgcnmbfhjjaaDoorWFoot
import Derived.Test.YthijgcnmbfhjjaaDoorWKept
import Derived.Test.YthijgcnmbfhjjaaDoorWShare
import Derived.Test.YthijgcnmbfhjjaaDoorWN
import Derived.Test.YthijgcnmbfhjjaaDoorWFootNe
import Derived.Test.YthijgcnmbfhjjaaDoorWAt
import Derived.Test.YthijgcnmbfhjjaaDoorWEqStruct
import Derived.Test.YthijgcnmbfhjjaaDoorWRepsOne
import Derived.Test.YthijgcnmbfhjjaaDoorWInv
import Derived.Test.YthijgcnmbfhjjaaDoorWInvWords
import Derived.Test.YthijgcnmbfhjjaaDoorWGuard
import Derived.Test.YthijgcnmbfhjjaaDoorWNEv
import Derived.Test.YthijgcnmbfhjjaaDoorWMore
namespace Go.Proofs.YthijgcnmbfhjjaaDoor.P
open Go.RowKit Go.Proofs.YthijgcnmbfhjjaaDoor.K Go.Proofs.YthijgcnmbfhjjaaDoorW.PrintWords Go.Proofs.YthijgcnmbfhjjaaDoorW.PrintLast Go.Proofs.YthijgcnmbfhjjaaDoorW.PrintMore
attribute [local go_sem] max2_int min2_int max_two min_two max_three min_three max_four min_four   -- for this text's walks alone
set_option linter.unusedVariables false
set_option linter.unusedSimpArgs false



def errW : Option Int → Value
  | none => .nilIface
  | some c => .iface 0 (.int .i64 c)
theorem errW_none : errW none = .nilIface := rfl
theorem errW_some (c : Int) : errW (some c) = .iface 0 (.int .i64 c) := rfl

theorem info9 : (Tryd.prog.info? 9).map (fun i => (i.zero, i.size, i.bytes)) = some (some (.string ⟨#[]⟩), 1, 16) := by kernel_rfl
-- the values' own types

end Go.Proofs.YthijgcnmbfhjjaaDoor.P
