-- Laid by this session's run of the printing program, with callees proved by hand. Not trusted: Lean checks it.
import Derived.Test.YtgpiboajpolmoaaProg
import Derived.Below
import Derived.Deep.Draws
import Derived.Deep.AppendLies
import Derived.Maps.AppendAt
import Derived.OwnWalk
import Derived.Laws.BytesArg
import Derived.Laws.MakeOwn
import Derived.Laws.OwnMore
import Derived.Deep.OwnRows
import Derived.Tactics
import Derived.Lib.ConvBytes
import Derived.Laws.Slices
import Derived.WalkKit
import Derived.KernelRfl
import Derived.RowKit3
import Derived.Deep.LoopGhost
import Derived.Deep.QuietTactic
import Derived.BigQuiet
import Derived.WideLaws
import Derived.Deep.DeepCutAuto
import Derived.Deep.CutBlock
import Derived.Deep.RegionHeld3
import Derived.Laws.Rows
import Derived.Lib.AppendStr
import Derived.ArgAppend
import Derived.Laws.IdiomCopy
import Derived.OrdersHeld
import Derived.Laws.BitsLemmas
import Derived.RowKit
import Derived.Test.YtgpiboajpolmoaaWWords
import Derived.Test.YtgpiboajpolmoaaWLast
import Derived.Test.YtgpiboajpolmoaaWTab
import Derived.Test.YtgpiboajpolmoaaWFour
import Derived.Test.YtgpiboajpolmoaaWQPut
import Derived.Test.YtgpiboajpolmoaaWApart
import Derived.Test.YtgpiboajpolmoaaWArr
import Derived.Test.YtgpiboajpolmoaaWZeros
import Derived.Test.YtgpiboajpolmoaaWFoot
import Derived.Test.YtgpiboajpolmoaaWKept
import Derived.Test.YtgpiboajpolmoaaWShare
import Derived.Test.YtgpiboajpolmoaaWN
import Derived.Test.YtgpiboajpolmoaaWFootNe
import Derived.Test.YtgpiboajpolmoaaWAt
import Derived.Test.YtgpiboajpolmoaaWEqStruct
import Derived.Test.YtgpiboajpolmoaaWRepsOne
import Derived.Test.YtgpiboajpolmoaaWInv
import Derived.Test.YtgpiboajpolmoaaWInvWords
import Derived.Test.YtgpiboajpolmoaaWGuard
import Derived.Test.YtgpiboajpolmoaaWNEv
import Derived.Test.YtgpiboajpolmoaaWMore
namespace Go.Proofs.Ytgpiboajpolmoaa.GFnTurns
open Go.RowKit Go.Proofs.YtgpiboajpolmoaaW.PrintWords Go.Proofs.YtgpiboajpolmoaaW.PrintLast Go.Proofs.YtgpiboajpolmoaaW.PrintMore
attribute [local go_sem] max2_int min2_int max_two min_two max_three min_three max_four min_four   -- for this text's walks alone
set_option linter.unusedVariables false
set_option linter.unusedSimpArgs false



def errW : Option Int → Value
  | none => .nilIface
  | some c => .iface 0 (.int .i64 c)
theorem errW_none : errW none = .nilIface := rfl
theorem errW_some (c : Int) : errW (some c) = .iface 0 (.int .i64 c) := rfl

theorem info3 : (Try.prog.info? 3).map (fun i => (i.zero, i.size, i.bytes)) = some (some (.int .i64 0), 1, 8) := by kernel_rfl
-- the values' own types

end Go.Proofs.Ytgpiboajpolmoaa.GFnTurns
