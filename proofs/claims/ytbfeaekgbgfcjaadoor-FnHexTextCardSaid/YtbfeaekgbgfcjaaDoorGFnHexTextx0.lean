-- Laid by this session's run of the printing program, with callees proved by hand. Not trusted: Lean checks it.
import Derived.Test.YtbfeaekgbgfcjaaDoorProg
import Derived.Below
import Derived.Deep.Draws
import Derived.Deep.AppendLies
import Derived.Maps.AppendAt
import Derived.OwnWalk
import Derived.Laws.BytesArg
import Derived.Laws.MakeOwn
import Derived.Laws.OwnMore
import Derived.Deep.OwnRows
import Derived.Tactics
import Derived.Lib.ConvBytes
import Derived.Laws.Slices
import Derived.WalkKit
import Derived.KernelRfl
import Derived.RowKit3
import Derived.Deep.LoopGhost
import Derived.Deep.QuietTactic
import Derived.BigQuiet
import Derived.WideLaws
import Derived.Deep.DeepCutAuto
import Derived.Deep.CutBlock
import Derived.Deep.RegionHeld3
import Derived.Laws.Rows
import Derived.Lib.AppendStr
import Derived.ArgAppend
import Derived.Laws.IdiomCopy
import Derived.OrdersHeld
import Derived.Laws.BitsLemmas
import Derived.RowKit
import Derived.Test.YtbfeaekgbgfcjaaDoorBuild
import Derived.Test.YtbfeaekgbgfcjaaDoorBase
import Derived.Lib.AppendIntMem
import Derived.Lib.ItoaNum
import Derived.Test.YtbfeaekgbgfcjaaDoorWWords
import Derived.Test.YtbfeaekgbgfcjaaDoorWLast
import Derived.Test.YtbfeaekgbgfcjaaDoorWTab
import Derived.Test.YtbfeaekgbgfcjaaDoorWFour
import Derived.Test.YtbfeaekgbgfcjaaDoorWQPut
import Derived.Test.YtbfeaekgbgfcjaaDoorWApart
import Derived.Test.YtbfeaekgbgfcjaaDoorWArr
import Derived.Test.YtbfeaekgbgfcjaaDoorWZeros
import Derived.Test.YtbfeaekgbgfcjaaDoorWFoot
import Derived.Test.YtbfeaekgbgfcjaaDoorWKept
import Derived.Test.YtbfeaekgbgfcjaaDoorWShare
import Derived.Test.YtbfeaekgbgfcjaaDoorWN
import Derived.Test.YtbfeaekgbgfcjaaDoorWFootNe
import Derived.Test.YtbfeaekgbgfcjaaDoorWAt
import Derived.Test.YtbfeaekgbgfcjaaDoorWEqStruct
import Derived.Test.YtbfeaekgbgfcjaaDoorWRepsOne
import Derived.Test.YtbfeaekgbgfcjaaDoorWInv
import Derived.Test.YtbfeaekgbgfcjaaDoorWInvWords
import Derived.Test.YtbfeaekgbgfcjaaDoorWGuard
import Derived.Test.YtbfeaekgbgfcjaaDoorWNEv
import Derived.Test.YtbfeaekgbgfcjaaDoorWMore
namespace Go.Proofs.YtbfeaekgbgfcjaaDoor.GFnHexText
open Go.RowKit Go.Proofs.YtbfeaekgbgfcjaaDoorW.PrintWords Go.Proofs.YtbfeaekgbgfcjaaDoorW.PrintLast Go.Proofs.YtbfeaekgbgfcjaaDoorW.PrintMore
attribute [local go_sem] max2_int min2_int max_two min_two max_three min_three max_four min_four   -- for this text's walks alone
set_option linter.unusedVariables false
set_option linter.unusedSimpArgs false



def errW : Option Int → Value
  | none => .nilIface
  | some c => .iface 0 (.int .i64 c)
theorem errW_none : errW none = .nilIface := rfl
theorem errW_some (c : Int) : errW (some c) = .iface 0 (.int .i64 c) := rfl

theorem info5 : (Tryd.prog.info? 5).map (fun i => (i.zero, i.size, i.bytes)) = some (some (.int .u8 0), 1, 1) := by kernel_rfl
-- the values' own types

end Go.Proofs.YtbfeaekgbgfcjaaDoor.GFnHexText
