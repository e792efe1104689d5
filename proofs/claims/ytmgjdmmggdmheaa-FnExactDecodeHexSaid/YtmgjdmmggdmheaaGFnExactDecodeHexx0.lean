-- Laid by this session's run of the printing program, with callees proved by hand. Not trusted: Lean checks it.
import Derived.Test.YtmgjdmmggdmheaaProg
import Derived.Below
import Derived.Deep.Draws
import Derived.Deep.AppendLies
import Derived.Maps.AppendAt
import Derived.OwnWalk
import Derived.Laws.BytesArg
import Derived.Laws.MakeOwn
import Derived.Laws.OwnMore
import Derived.Deep.OwnRows
import Derived.Tactics
import Derived.Lib.ConvBytes
import Derived.Laws.Slices
import Derived.WalkKit
import Derived.KernelRfl
import Derived.RowKit3
import Derived.Deep.LoopGhost
import Derived.Deep.QuietTactic
import Derived.BigQuiet
import Derived.WideLaws
import Derived.Deep.DeepCutAuto
import Derived.Deep.CutBlock
import Derived.Deep.RegionHeld3
import Derived.Laws.Rows
import Derived.Lib.AppendStr
import Derived.ArgAppend
import Derived.Laws.IdiomCopy
import Derived.OrdersHeld
import Derived.Laws.BitsLemmas
import Derived.RowKit
import Derived.Test.YtmgjdmmggdmheaaBuild
import Derived.Test.YtmgjdmmggdmheaaWWords
import Derived.Test.YtmgjdmmggdmheaaWLast
import Derived.Test.YtmgjdmmggdmheaaWTab
import Derived.Test.YtmgjdmmggdmheaaWFour
import Derived.Test.YtmgjdmmggdmheaaWQPut
import Derived.Test.YtmgjdmmggdmheaaWApart
import Derived.Test.YtmgjdmmggdmheaaWArr
import Derived.Test.YtmgjdmmggdmheaaWZeros
import Derived.Test.YtmgjdmmggdmheaaWFoot
import Derived.Test.YtmgjdmmggdmheaaWKept
import Derived.Test.YtmgjdmmggdmheaaWShare
import Derived.Test.YtmgjdmmggdmheaaWN
import Derived.Test.YtmgjdmmggdmheaaWFootNe
import Derived.Test.YtmgjdmmggdmheaaWAt
import Derived.Test.YtmgjdmmggdmheaaWEqStruct
import Derived.Test.YtmgjdmmggdmheaaWRepsOne
import Derived.Test.YtmgjdmmggdmheaaWInv
import Derived.Test.YtmgjdmmggdmheaaWInvWords
import Derived.Test.YtmgjdmmggdmheaaWGuard
import Derived.Test.YtmgjdmmggdmheaaWNEv
import Derived.Test.YtmgjdmmggdmheaaWMore
namespace Go.Proofs.Ytmgjdmmggdmheaa.GFnExactDecodeHex
open Go.RowKit Go.Proofs.YtmgjdmmggdmheaaW.PrintWords Go.Proofs.YtmgjdmmggdmheaaW.PrintLast Go.Proofs.YtmgjdmmggdmheaaW.PrintMore
attribute [local go_sem] max2_int min2_int max_two min_two max_three min_three max_four min_four   -- for this text's walks alone
set_option linter.unusedVariables false
set_option linter.unusedSimpArgs false



def errW : Option Int → Value
  | none => .nilIface
  | some c => .iface 0 (.int .i64 c)
theorem errW_none : errW none = .nilIface := rfl
theorem errW_some (c : Int) : errW (some c) = .iface 0 (.int .i64 c) := rfl

theorem info5 : (Try.prog.info? 5).map (fun i => (i.zero, i.size, i.bytes)) = some (some (.int .u8 0), 1, 1) := by kernel_rfl
-- the values' own types

end Go.Proofs.Ytmgjdmmggdmheaa.GFnExactDecodeHex
