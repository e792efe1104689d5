/-
  No cell of these rows narrows 'for every input' (looked for: loops, veiled, ifaces, maps, wideKeys, modest, calm, conditions, laid).
  DERIVED. THE GIVEN ROWS OF THIS SEAT. 12 by the template 'for every input the law returns true; each argument reads behind the call as it read before'; 0 by the template 'total and deterministic' (their statements: YtgpiboajpolmoaaTotals.lean).
  GIVEN WITH THE SEED: the statements are not yours to turn. If you find one false, say at which input.
  Laid BY PROGRAM, IN A SANDBOX (cutbox-rows.mjs): the forced cells as the released guide's own fill.sh prints them over the translation 8023389fba56d3b2… (all of the seat's roots in one cut). By AI agents, Wed Nov 11 2026. No macro, syntax, notation, axiom, sorry.
-/
import Derived.Test.YtgpiboajpolmoaaChecked
import GoSem.Claim
import GoSem.ClaimJoined
import GoSem.ClaimMapViews
import Derived.JoinedTies
import Derived.KernelRfl
namespace Go.Proofs.Ytgpiboajpolmoaa
/- THE CELL 'sum', in the pinned program and in every row, IS THE sha256 OF THE DUMP (.gsa) THAT YtgpiboajpolmoaaProg.lean LOADS. Nothing in Lean hashes anything: it is a label: what it is worth is what the hold of that sum in a sandbox is worth. -/
noncomputable def Try.pinned : Pinned := { name := "ytgpiboajpolmoaa", sum := "8023389fba56d3b2db5aac1441cb20039511e59f21931740e5e6a04b035d2fc4", checked := Try.checked }
namespace Rows
def none {H : Type} : Left H := { results := [], args := [] }

/-- 'laws.FnExactTakeNumbers': WHATEVER THE INPUT: true; the input reads as it did. -/
def fnExactTakeNumbersSpec : ChangeSpec := { name := "fnExactTakeNumbers", fn := fun _ => fun
  | [d1, d2] => { results := [.lit (.bool true)], args := [d1, d2] }
  | _ => none }
def fnExactTakeNumbersRow : OpenClaim := { program := "ytgpiboajpolmoaa", sum := "8023389fba56d3b2db5aac1441cb20039511e59f21931740e5e6a04b035d2fc4", func := "loop.example/g00987/laws.FnExactTakeNumbers", spec := "fnExactTakeNumbers", apart := false }
def FnExactTakeNumbersSaid : Prop := fnExactTakeNumbersRow.holds Try.pinned (OpenSpec.ofChange fnExactTakeNumbersSpec)

/-- ITS FALSE NEIGHBOUR: 'it returns false'. Refute it at one input. -/
def fnExactTakeNumbersWrong : ChangeSpec := { name := "fnExactTakeNumbers", fn := fun _ => fun
  | [d1, d2] => { results := [.lit (.bool false)], args := [d1, d2] }
  | _ => none }
def FnExactTakeNumbersWrongFalsely : Prop := fnExactTakeNumbersRow.holds Try.pinned (OpenSpec.ofChange fnExactTakeNumbersWrong)

/-- 'laws.FnExactAreaTwice': WHATEVER THE INPUT: true; the input reads as it did. -/
def fnExactAreaTwiceSpec : ChangeSpec := { name := "fnExactAreaTwice", fn := fun _ => fun
  | [d] => { results := [.lit (.bool true)], args := [d] }
  | _ => none }
def fnExactAreaTwiceRow : OpenClaim := { program := "ytgpiboajpolmoaa", sum := "8023389fba56d3b2db5aac1441cb20039511e59f21931740e5e6a04b035d2fc4", func := "loop.example/g00987/laws.FnExactAreaTwice", spec := "fnExactAreaTwice", apart := false }
def FnExactAreaTwiceSaid : Prop := fnExactAreaTwiceRow.holds Try.pinned (OpenSpec.ofChange fnExactAreaTwiceSpec)

/-- ITS FALSE NEIGHBOUR: 'it returns false'. Refute it at one input. -/
def fnExactAreaTwiceWrong : ChangeSpec := { name := "fnExactAreaTwice", fn := fun _ => fun
  | [d] => { results := [.lit (.bool false)], args := [d] }
  | _ => none }
def FnExactAreaTwiceWrongFalsely : Prop := fnExactAreaTwiceRow.holds Try.pinned (OpenSpec.ofChange fnExactAreaTwiceWrong)

/-- 'laws.FnMeets': WHATEVER THE INPUT: true; the input reads as it did. -/
def fnMeetsSpec : ChangeSpec := { name := "fnMeets", fn := fun _ => fun
  | [d] => { results := [.lit (.bool true)], args := [d] }
  | _ => none }
def fnMeetsRow : OpenClaim := { program := "ytgpiboajpolmoaa", sum := "8023389fba56d3b2db5aac1441cb20039511e59f21931740e5e6a04b035d2fc4", func := "loop.example/g00987/laws.FnMeets", spec := "fnMeets", apart := false }
def FnMeetsSaid : Prop := fnMeetsRow.holds Try.pinned (OpenSpec.ofChange fnMeetsSpec)

/-- ITS FALSE NEIGHBOUR: 'it returns false'. Refute it at one input. -/
def fnMeetsWrong : ChangeSpec := { name := "fnMeets", fn := fun _ => fun
  | [d] => { results := [.lit (.bool false)], args := [d] }
  | _ => none }
def FnMeetsWrongFalsely : Prop := fnMeetsRow.holds Try.pinned (OpenSpec.ofChange fnMeetsWrong)

/-- 'laws.FnTurns': WHATEVER THE INPUT: true; the input reads as it did. -/
def fnTurnsSpec : ChangeSpec := { name := "fnTurns", fn := fun _ => fun
  | [d] => { results := [.lit (.bool true)], args := [d] }
  | _ => none }
def fnTurnsRow : OpenClaim := { program := "ytgpiboajpolmoaa", sum := "8023389fba56d3b2db5aac1441cb20039511e59f21931740e5e6a04b035d2fc4", func := "loop.example/g00987/laws.FnTurns", spec := "fnTurns", apart := false }
def FnTurnsSaid : Prop := fnTurnsRow.holds Try.pinned (OpenSpec.ofChange fnTurnsSpec)

/-- ITS FALSE NEIGHBOUR: 'it returns false'. Refute it at one input. -/
def fnTurnsWrong : ChangeSpec := { name := "fnTurns", fn := fun _ => fun
  | [d] => { results := [.lit (.bool false)], args := [d] }
  | _ => none }
def FnTurnsWrongFalsely : Prop := fnTurnsRow.holds Try.pinned (OpenSpec.ofChange fnTurnsWrong)

/-- 'laws.FnExactBoxOf': WHATEVER THE INPUT: true; the input reads as it did. -/
def fnExactBoxOfSpec : ChangeSpec := { name := "fnExactBoxOf", fn := fun _ => fun
  | [d] => { results := [.lit (.bool true)], args := [d] }
  | _ => none }
def fnExactBoxOfRow : OpenClaim := { program := "ytgpiboajpolmoaa", sum := "8023389fba56d3b2db5aac1441cb20039511e59f21931740e5e6a04b035d2fc4", func := "loop.example/g00987/laws.FnExactBoxOf", spec := "fnExactBoxOf", apart := false }
def FnExactBoxOfSaid : Prop := fnExactBoxOfRow.holds Try.pinned (OpenSpec.ofChange fnExactBoxOfSpec)

/-- ITS FALSE NEIGHBOUR: 'it returns false'. Refute it at one input. -/
def fnExactBoxOfWrong : ChangeSpec := { name := "fnExactBoxOf", fn := fun _ => fun
  | [d] => { results := [.lit (.bool false)], args := [d] }
  | _ => none }
def FnExactBoxOfWrongFalsely : Prop := fnExactBoxOfRow.holds Try.pinned (OpenSpec.ofChange fnExactBoxOfWrong)

/-- 'laws.FnBoxes': WHATEVER THE INPUT: true; the input reads as it did. -/
def fnBoxesSpec : ChangeSpec := { name := "fnBoxes", fn := fun _ => fun
  | [d] => { results := [.lit (.bool true)], args := [d] }
  | _ => none }
def fnBoxesRow : OpenClaim := { program := "ytgpiboajpolmoaa", sum := "8023389fba56d3b2db5aac1441cb20039511e59f21931740e5e6a04b035d2fc4", func := "loop.example/g00987/laws.FnBoxes", spec := "fnBoxes", apart := false }
def FnBoxesSaid : Prop := fnBoxesRow.holds Try.pinned (OpenSpec.ofChange fnBoxesSpec)

/-- ITS FALSE NEIGHBOUR: 'it returns false'. Refute it at one input. -/
def fnBoxesWrong : ChangeSpec := { name := "fnBoxes", fn := fun _ => fun
  | [d] => { results := [.lit (.bool false)], args := [d] }
  | _ => none }
def FnBoxesWrongFalsely : Prop := fnBoxesRow.holds Try.pinned (OpenSpec.ofChange fnBoxesWrong)

/-- 'laws.FnExactShiftPath': WHATEVER THE INPUT: true; the input reads as it did. -/
def fnExactShiftPathSpec : ChangeSpec := { name := "fnExactShiftPath", fn := fun _ => fun
  | [d1, d2, d3] => { results := [.lit (.bool true)], args := [d1, d2, d3] }
  | _ => none }
def fnExactShiftPathRow : OpenClaim := { program := "ytgpiboajpolmoaa", sum := "8023389fba56d3b2db5aac1441cb20039511e59f21931740e5e6a04b035d2fc4", func := "loop.example/g00987/laws.FnExactShiftPath", spec := "fnExactShiftPath", apart := false }
def FnExactShiftPathSaid : Prop := fnExactShiftPathRow.holds Try.pinned (OpenSpec.ofChange fnExactShiftPathSpec)

/-- ITS FALSE NEIGHBOUR: 'it returns false'. Refute it at one input. -/
def fnExactShiftPathWrong : ChangeSpec := { name := "fnExactShiftPath", fn := fun _ => fun
  | [d1, d2, d3] => { results := [.lit (.bool false)], args := [d1, d2, d3] }
  | _ => none }
def FnExactShiftPathWrongFalsely : Prop := fnExactShiftPathRow.holds Try.pinned (OpenSpec.ofChange fnExactShiftPathWrong)

/-- 'laws.FnExactMeetSpans': WHATEVER THE INPUT: true; the input reads as it did. -/
def fnExactMeetSpansSpec : ChangeSpec := { name := "fnExactMeetSpans", fn := fun _ => fun
  | [d1, d2, d3] => { results := [.lit (.bool true)], args := [d1, d2, d3] }
  | _ => none }
def fnExactMeetSpansRow : OpenClaim := { program := "ytgpiboajpolmoaa", sum := "8023389fba56d3b2db5aac1441cb20039511e59f21931740e5e6a04b035d2fc4", func := "loop.example/g00987/laws.FnExactMeetSpans", spec := "fnExactMeetSpans", apart := false }
def FnExactMeetSpansSaid : Prop := fnExactMeetSpansRow.holds Try.pinned (OpenSpec.ofChange fnExactMeetSpansSpec)

/-- ITS FALSE NEIGHBOUR: 'it returns false'. Refute it at one input. -/
def fnExactMeetSpansWrong : ChangeSpec := { name := "fnExactMeetSpans", fn := fun _ => fun
  | [d1, d2, d3] => { results := [.lit (.bool false)], args := [d1, d2, d3] }
  | _ => none }
def FnExactMeetSpansWrongFalsely : Prop := fnExactMeetSpansRow.holds Try.pinned (OpenSpec.ofChange fnExactMeetSpansWrong)

/-- 'laws.FnExactInsidePath': WHATEVER THE INPUT: true; the input reads as it did. -/
def fnExactInsidePathSpec : ChangeSpec := { name := "fnExactInsidePath", fn := fun _ => fun
  | [d1, d2, d3] => { results := [.lit (.bool true)], args := [d1, d2, d3] }
  | _ => none }
def fnExactInsidePathRow : OpenClaim := { program := "ytgpiboajpolmoaa", sum := "8023389fba56d3b2db5aac1441cb20039511e59f21931740e5e6a04b035d2fc4", func := "loop.example/g00987/laws.FnExactInsidePath", spec := "fnExactInsidePath", apart := false }
def FnExactInsidePathSaid : Prop := fnExactInsidePathRow.holds Try.pinned (OpenSpec.ofChange fnExactInsidePathSpec)

/-- ITS FALSE NEIGHBOUR: 'it returns false'. Refute it at one input. -/
def fnExactInsidePathWrong : ChangeSpec := { name := "fnExactInsidePath", fn := fun _ => fun
  | [d1, d2, d3] => { results := [.lit (.bool false)], args := [d1, d2, d3] }
  | _ => none }
def FnExactInsidePathWrongFalsely : Prop := fnExactInsidePathRow.holds Try.pinned (OpenSpec.ofChange fnExactInsidePathWrong)

/-- 'laws.FnStacks': WHATEVER THE INPUT: true; the input reads as it did. -/
def fnStacksSpec : ChangeSpec := { name := "fnStacks", fn := fun _ => fun
  | [d] => { results := [.lit (.bool true)], args := [d] }
  | _ => none }
def fnStacksRow : OpenClaim := { program := "ytgpiboajpolmoaa", sum := "8023389fba56d3b2db5aac1441cb20039511e59f21931740e5e6a04b035d2fc4", func := "loop.example/g00987/laws.FnStacks", spec := "fnStacks", apart := false }
def FnStacksSaid : Prop := fnStacksRow.holds Try.pinned (OpenSpec.ofChange fnStacksSpec)

/-- ITS FALSE NEIGHBOUR: 'it returns false'. Refute it at one input. -/
def fnStacksWrong : ChangeSpec := { name := "fnStacks", fn := fun _ => fun
  | [d] => { results := [.lit (.bool false)], args := [d] }
  | _ => none }
def FnStacksWrongFalsely : Prop := fnStacksRow.holds Try.pinned (OpenSpec.ofChange fnStacksWrong)

/-- 'laws.FnRectangles': WHATEVER THE INPUT: true; the input reads as it did. -/
def fnRectanglesSpec : ChangeSpec := { name := "fnRectangles", fn := fun _ => fun
  | [d] => { results := [.lit (.bool true)], args := [d] }
  | _ => none }
def fnRectanglesRow : OpenClaim := { program := "ytgpiboajpolmoaa", sum := "8023389fba56d3b2db5aac1441cb20039511e59f21931740e5e6a04b035d2fc4", func := "loop.example/g00987/laws.FnRectangles", spec := "fnRectangles", apart := false }
def FnRectanglesSaid : Prop := fnRectanglesRow.holds Try.pinned (OpenSpec.ofChange fnRectanglesSpec)

/-- ITS FALSE NEIGHBOUR: 'it returns false'. Refute it at one input. -/
def fnRectanglesWrong : ChangeSpec := { name := "fnRectangles", fn := fun _ => fun
  | [d] => { results := [.lit (.bool false)], args := [d] }
  | _ => none }
def FnRectanglesWrongFalsely : Prop := fnRectanglesRow.holds Try.pinned (OpenSpec.ofChange fnRectanglesWrong)

/-- 'laws.FnExactCountInside': WHATEVER THE INPUT: true; the input reads as it did. -/
def fnExactCountInsideSpec : ChangeSpec := { name := "fnExactCountInside", fn := fun _ => fun
  | [d] => { results := [.lit (.bool true)], args := [d] }
  | _ => none }
def fnExactCountInsideRow : OpenClaim := { program := "ytgpiboajpolmoaa", sum := "8023389fba56d3b2db5aac1441cb20039511e59f21931740e5e6a04b035d2fc4", func := "loop.example/g00987/laws.FnExactCountInside", spec := "fnExactCountInside", apart := false }
def FnExactCountInsideSaid : Prop := fnExactCountInsideRow.holds Try.pinned (OpenSpec.ofChange fnExactCountInsideSpec)

/-- ITS FALSE NEIGHBOUR: 'it returns false'. Refute it at one input. -/
def fnExactCountInsideWrong : ChangeSpec := { name := "fnExactCountInside", fn := fun _ => fun
  | [d] => { results := [.lit (.bool false)], args := [d] }
  | _ => none }
def FnExactCountInsideWrongFalsely : Prop := fnExactCountInsideRow.holds Try.pinned (OpenSpec.ofChange fnExactCountInsideWrong)

/- THE SECOND FORM. 'bulk': how many values and letters a reading holds, each counted each time it is reached (what is shared counts as often as it is met; a slice's spare places count too). A statement '..UptoSaid' is the law's where the arguments, and the package variables that the reading takes, are together of bulk at most 1048576: NARROWER than '..Said'. Prove '..Said' where nothing that the law and all that it calls make is longer than what came in: it says more and counts as full. Else prove '..UptoSaid'. A law counts once. -/
mutual
def uptoBulk {H : Type} : DataW H → Nat
  | .lit (.string bytes) => bytes.length + 1
  | .lit _ => 1
  | .nil => 1
  | .ptr d => uptoBulk d + 1
  | .slice elems spare => uptoBulkAll elems + uptoBulkAll spare + 1
  | .agg parts => uptoBulkAll parts + 1
  | .iface _ d => uptoBulk d + 1
  | .map entries => uptoBulkEntries entries + 1
  | .held _ => 1
def uptoBulkAll {H : Type} : List (DataW H) → Nat
  | [] => 0
  | d :: r => uptoBulk d + uptoBulkAll r
def uptoBulkEntries {H : Type} : List (Lit × DataW H) → Nat
  | [] => 0
  | x :: r => uptoBulkEntry x + uptoBulkEntries r
def uptoBulkEntry {H : Type} : Lit × DataW H → Nat
  | (.string bytes, d) => bytes.length + uptoBulk d + 1
  | (_, d) => uptoBulk d + 1
 end
def uptoSmall : (H : Type) → List (DataW H) → Bool := fun _ ds => decide (uptoBulkAll ds ≤ 1048576)
def OpenSpec.upto (s : _root_.Go.ChangeSpec) : _root_.Go.OpenSpec := { _root_.Go.OpenSpec.ofChange s with cond := some uptoSmall }

/-- 'laws.FnExactTakeNumbers', WHERE WHAT IT READS IS OF BULK AT MOST 1048576: true; the input reads as it did. -/
def fnExactTakeNumbersUptoRow : OpenClaim := { program := "ytgpiboajpolmoaa", sum := "8023389fba56d3b2db5aac1441cb20039511e59f21931740e5e6a04b035d2fc4", func := "loop.example/g00987/laws.FnExactTakeNumbers", spec := "fnExactTakeNumbers", apart := false, narrowed := true }
def FnExactTakeNumbersUptoSaid : Prop := fnExactTakeNumbersUptoRow.holds Try.pinned (OpenSpec.upto fnExactTakeNumbersSpec)

/-- 'laws.FnExactAreaTwice', WHERE WHAT IT READS IS OF BULK AT MOST 1048576: true; the input reads as it did. -/
def fnExactAreaTwiceUptoRow : OpenClaim := { program := "ytgpiboajpolmoaa", sum := "8023389fba56d3b2db5aac1441cb20039511e59f21931740e5e6a04b035d2fc4", func := "loop.example/g00987/laws.FnExactAreaTwice", spec := "fnExactAreaTwice", apart := false, narrowed := true }
def FnExactAreaTwiceUptoSaid : Prop := fnExactAreaTwiceUptoRow.holds Try.pinned (OpenSpec.upto fnExactAreaTwiceSpec)

/-- 'laws.FnMeets', WHERE WHAT IT READS IS OF BULK AT MOST 1048576: true; the input reads as it did. -/
def fnMeetsUptoRow : OpenClaim := { program := "ytgpiboajpolmoaa", sum := "8023389fba56d3b2db5aac1441cb20039511e59f21931740e5e6a04b035d2fc4", func := "loop.example/g00987/laws.FnMeets", spec := "fnMeets", apart := false, narrowed := true }
def FnMeetsUptoSaid : Prop := fnMeetsUptoRow.holds Try.pinned (OpenSpec.upto fnMeetsSpec)

/-- 'laws.FnTurns', WHERE WHAT IT READS IS OF BULK AT MOST 1048576: true; the input reads as it did. -/
def fnTurnsUptoRow : OpenClaim := { program := "ytgpiboajpolmoaa", sum := "8023389fba56d3b2db5aac1441cb20039511e59f21931740e5e6a04b035d2fc4", func := "loop.example/g00987/laws.FnTurns", spec := "fnTurns", apart := false, narrowed := true }
def FnTurnsUptoSaid : Prop := fnTurnsUptoRow.holds Try.pinned (OpenSpec.upto fnTurnsSpec)

/-- 'laws.FnExactBoxOf', WHERE WHAT IT READS IS OF BULK AT MOST 1048576: true; the input reads as it did. -/
def fnExactBoxOfUptoRow : OpenClaim := { program := "ytgpiboajpolmoaa", sum := "8023389fba56d3b2db5aac1441cb20039511e59f21931740e5e6a04b035d2fc4", func := "loop.example/g00987/laws.FnExactBoxOf", spec := "fnExactBoxOf", apart := false, narrowed := true }
def FnExactBoxOfUptoSaid : Prop := fnExactBoxOfUptoRow.holds Try.pinned (OpenSpec.upto fnExactBoxOfSpec)

/-- 'laws.FnBoxes', WHERE WHAT IT READS IS OF BULK AT MOST 1048576: true; the input reads as it did. -/
def fnBoxesUptoRow : OpenClaim := { program := "ytgpiboajpolmoaa", sum := "8023389fba56d3b2db5aac1441cb20039511e59f21931740e5e6a04b035d2fc4", func := "loop.example/g00987/laws.FnBoxes", spec := "fnBoxes", apart := false, narrowed := true }
def FnBoxesUptoSaid : Prop := fnBoxesUptoRow.holds Try.pinned (OpenSpec.upto fnBoxesSpec)

/-- 'laws.FnExactShiftPath', WHERE WHAT IT READS IS OF BULK AT MOST 1048576: true; the input reads as it did. -/
def fnExactShiftPathUptoRow : OpenClaim := { program := "ytgpiboajpolmoaa", sum := "8023389fba56d3b2db5aac1441cb20039511e59f21931740e5e6a04b035d2fc4", func := "loop.example/g00987/laws.FnExactShiftPath", spec := "fnExactShiftPath", apart := false, narrowed := true }
def FnExactShiftPathUptoSaid : Prop := fnExactShiftPathUptoRow.holds Try.pinned (OpenSpec.upto fnExactShiftPathSpec)

/-- 'laws.FnExactMeetSpans', WHERE WHAT IT READS IS OF BULK AT MOST 1048576: true; the input reads as it did. -/
def fnExactMeetSpansUptoRow : OpenClaim := { program := "ytgpiboajpolmoaa", sum := "8023389fba56d3b2db5aac1441cb20039511e59f21931740e5e6a04b035d2fc4", func := "loop.example/g00987/laws.FnExactMeetSpans", spec := "fnExactMeetSpans", apart := false, narrowed := true }
def FnExactMeetSpansUptoSaid : Prop := fnExactMeetSpansUptoRow.holds Try.pinned (OpenSpec.upto fnExactMeetSpansSpec)

/-- 'laws.FnExactInsidePath', WHERE WHAT IT READS IS OF BULK AT MOST 1048576: true; the input reads as it did. -/
def fnExactInsidePathUptoRow : OpenClaim := { program := "ytgpiboajpolmoaa", sum := "8023389fba56d3b2db5aac1441cb20039511e59f21931740e5e6a04b035d2fc4", func := "loop.example/g00987/laws.FnExactInsidePath", spec := "fnExactInsidePath", apart := false, narrowed := true }
def FnExactInsidePathUptoSaid : Prop := fnExactInsidePathUptoRow.holds Try.pinned (OpenSpec.upto fnExactInsidePathSpec)

/-- 'laws.FnStacks', WHERE WHAT IT READS IS OF BULK AT MOST 1048576: true; the input reads as it did. -/
def fnStacksUptoRow : OpenClaim := { program := "ytgpiboajpolmoaa", sum := "8023389fba56d3b2db5aac1441cb20039511e59f21931740e5e6a04b035d2fc4", func := "loop.example/g00987/laws.FnStacks", spec := "fnStacks", apart := false, narrowed := true }
def FnStacksUptoSaid : Prop := fnStacksUptoRow.holds Try.pinned (OpenSpec.upto fnStacksSpec)

/-- 'laws.FnRectangles', WHERE WHAT IT READS IS OF BULK AT MOST 1048576: true; the input reads as it did. -/
def fnRectanglesUptoRow : OpenClaim := { program := "ytgpiboajpolmoaa", sum := "8023389fba56d3b2db5aac1441cb20039511e59f21931740e5e6a04b035d2fc4", func := "loop.example/g00987/laws.FnRectangles", spec := "fnRectangles", apart := false, narrowed := true }
def FnRectanglesUptoSaid : Prop := fnRectanglesUptoRow.holds Try.pinned (OpenSpec.upto fnRectanglesSpec)

/-- 'laws.FnExactCountInside', WHERE WHAT IT READS IS OF BULK AT MOST 1048576: true; the input reads as it did. -/
def fnExactCountInsideUptoRow : OpenClaim := { program := "ytgpiboajpolmoaa", sum := "8023389fba56d3b2db5aac1441cb20039511e59f21931740e5e6a04b035d2fc4", func := "loop.example/g00987/laws.FnExactCountInside", spec := "fnExactCountInside", apart := false, narrowed := true }
def FnExactCountInsideUptoSaid : Prop := fnExactCountInsideUptoRow.holds Try.pinned (OpenSpec.upto fnExactCountInsideSpec)

end Rows
end Go.Proofs.Ytgpiboajpolmoaa
