/-
  No cell of these rows narrows 'for every input' (looked for: loops, veiled, ifaces, maps, wideKeys, modest, calm, conditions, laid).
  DERIVED. THE GIVEN ROWS OF THIS SEAT. 12 by the template 'for every input the law returns true; each argument reads behind the call as it read before'; 0 by the template 'total and deterministic' (their statements: YtmgjdmmggdmheaaTotals.lean).
  GIVEN WITH THE SEED: the statements are not yours to turn. If you find one false, say at which input.
  Laid BY PROGRAM, IN A SANDBOX (cutbox-rows.mjs): the forced cells as the released guide's own fill.sh prints them over the translation 7a100a0a5e6e5019… (all of the seat's roots in one cut). By AI agents, Wed Nov 11 2026. No macro, syntax, notation, axiom, sorry.
-/
import Derived.Test.YtmgjdmmggdmheaaChecked
import GoSem.Claim
import GoSem.ClaimJoined
import GoSem.ClaimMapViews
import Derived.JoinedTies
import Derived.KernelRfl
namespace Go.Proofs.Ytmgjdmmggdmheaa
/- THE CELL 'sum', in the pinned program and in every row, IS THE sha256 OF THE DUMP (.gsa) THAT YtmgjdmmggdmheaaProg.lean LOADS. Nothing in Lean hashes anything: it is a label: what it is worth is what the hold of that sum in a sandbox is worth. -/
noncomputable def Try.pinned : Pinned := { name := "ytmgjdmmggdmheaa", sum := "7a100a0a5e6e501964e0d5dd656b4fd376801092b57a3f70ee023305be326182", checked := Try.checked }
namespace Rows
def none {H : Type} : Left H := { results := [], args := [] }

/-- 'laws.FnSpans': WHATEVER THE INPUT: true; the input reads as it did. -/
def fnSpansSpec : ChangeSpec := { name := "fnSpans", fn := fun _ => fun
  | [d] => { results := [.lit (.bool true)], args := [d] }
  | _ => none }
def fnSpansRow : OpenClaim := { program := "ytmgjdmmggdmheaa", sum := "7a100a0a5e6e501964e0d5dd656b4fd376801092b57a3f70ee023305be326182", func := "loop.example/g00987/laws.FnSpans", spec := "fnSpans", apart := false }
def FnSpansSaid : Prop := fnSpansRow.holds Try.pinned (OpenSpec.ofChange fnSpansSpec)

/-- ITS FALSE NEIGHBOUR: 'it returns false'. Refute it at one input. -/
def fnSpansWrong : ChangeSpec := { name := "fnSpans", fn := fun _ => fun
  | [d] => { results := [.lit (.bool false)], args := [d] }
  | _ => none }
def FnSpansWrongFalsely : Prop := fnSpansRow.holds Try.pinned (OpenSpec.ofChange fnSpansWrong)

/-- 'laws.FnExactMeetBox': WHATEVER THE INPUT: true; the input reads as it did. -/
def fnExactMeetBoxSpec : ChangeSpec := { name := "fnExactMeetBox", fn := fun _ => fun
  | [d1, d2] => { results := [.lit (.bool true)], args := [d1, d2] }
  | _ => none }
def fnExactMeetBoxRow : OpenClaim := { program := "ytmgjdmmggdmheaa", sum := "7a100a0a5e6e501964e0d5dd656b4fd376801092b57a3f70ee023305be326182", func := "loop.example/g00987/laws.FnExactMeetBox", spec := "fnExactMeetBox", apart := false }
def FnExactMeetBoxSaid : Prop := fnExactMeetBoxRow.holds Try.pinned (OpenSpec.ofChange fnExactMeetBoxSpec)

/-- ITS FALSE NEIGHBOUR: 'it returns false'. Refute it at one input. -/
def fnExactMeetBoxWrong : ChangeSpec := { name := "fnExactMeetBox", fn := fun _ => fun
  | [d1, d2] => { results := [.lit (.bool false)], args := [d1, d2] }
  | _ => none }
def FnExactMeetBoxWrongFalsely : Prop := fnExactMeetBoxRow.holds Try.pinned (OpenSpec.ofChange fnExactMeetBoxWrong)

/-- 'laws.FnExactEncodeHex': WHATEVER THE INPUT: true; the input reads as it did. -/
def fnExactEncodeHexSpec : ChangeSpec := { name := "fnExactEncodeHex", fn := fun _ => fun
  | [d] => { results := [.lit (.bool true)], args := [d] }
  | _ => none }
def fnExactEncodeHexRow : OpenClaim := { program := "ytmgjdmmggdmheaa", sum := "7a100a0a5e6e501964e0d5dd656b4fd376801092b57a3f70ee023305be326182", func := "loop.example/g00987/laws.FnExactEncodeHex", spec := "fnExactEncodeHex", inPlace := ["internal/abi.NoEscape"], apart := false }
def FnExactEncodeHexSaid : Prop := fnExactEncodeHexRow.holds Try.pinned (OpenSpec.ofChange fnExactEncodeHexSpec)

/-- ITS FALSE NEIGHBOUR: 'it returns false'. Refute it at one input. -/
def fnExactEncodeHexWrong : ChangeSpec := { name := "fnExactEncodeHex", fn := fun _ => fun
  | [d] => { results := [.lit (.bool false)], args := [d] }
  | _ => none }
def FnExactEncodeHexWrongFalsely : Prop := fnExactEncodeHexRow.holds Try.pinned (OpenSpec.ofChange fnExactEncodeHexWrong)

/-- 'laws.FnClamped': WHATEVER THE INPUT: true; the input reads as it did. -/
def fnClampedSpec : ChangeSpec := { name := "fnClamped", fn := fun _ => fun
  | [d] => { results := [.lit (.bool true)], args := [d] }
  | _ => none }
def fnClampedRow : OpenClaim := { program := "ytmgjdmmggdmheaa", sum := "7a100a0a5e6e501964e0d5dd656b4fd376801092b57a3f70ee023305be326182", func := "loop.example/g00987/laws.FnClamped", spec := "fnClamped", apart := false }
def FnClampedSaid : Prop := fnClampedRow.holds Try.pinned (OpenSpec.ofChange fnClampedSpec)

/-- ITS FALSE NEIGHBOUR: 'it returns false'. Refute it at one input. -/
def fnClampedWrong : ChangeSpec := { name := "fnClamped", fn := fun _ => fun
  | [d] => { results := [.lit (.bool false)], args := [d] }
  | _ => none }
def FnClampedWrongFalsely : Prop := fnClampedRow.holds Try.pinned (OpenSpec.ofChange fnClampedWrong)

/-- 'laws.FnExactInSpans': WHATEVER THE INPUT: true; the input reads as it did. -/
def fnExactInSpansSpec : ChangeSpec := { name := "fnExactInSpans", fn := fun _ => fun
  | [d1, d2] => { results := [.lit (.bool true)], args := [d1, d2] }
  | _ => none }
def fnExactInSpansRow : OpenClaim := { program := "ytmgjdmmggdmheaa", sum := "7a100a0a5e6e501964e0d5dd656b4fd376801092b57a3f70ee023305be326182", func := "loop.example/g00987/laws.FnExactInSpans", spec := "fnExactInSpans", apart := false }
def FnExactInSpansSaid : Prop := fnExactInSpansRow.holds Try.pinned (OpenSpec.ofChange fnExactInSpansSpec)

/-- ITS FALSE NEIGHBOUR: 'it returns false'. Refute it at one input. -/
def fnExactInSpansWrong : ChangeSpec := { name := "fnExactInSpans", fn := fun _ => fun
  | [d1, d2] => { results := [.lit (.bool false)], args := [d1, d2] }
  | _ => none }
def FnExactInSpansWrongFalsely : Prop := fnExactInSpansRow.holds Try.pinned (OpenSpec.ofChange fnExactInSpansWrong)

/-- 'laws.FnExactSpansOk': WHATEVER THE INPUT: true; the input reads as it did. -/
def fnExactSpansOkSpec : ChangeSpec := { name := "fnExactSpansOk", fn := fun _ => fun
  | [d] => { results := [.lit (.bool true)], args := [d] }
  | _ => none }
def fnExactSpansOkRow : OpenClaim := { program := "ytmgjdmmggdmheaa", sum := "7a100a0a5e6e501964e0d5dd656b4fd376801092b57a3f70ee023305be326182", func := "loop.example/g00987/laws.FnExactSpansOk", spec := "fnExactSpansOk", apart := false }
def FnExactSpansOkSaid : Prop := fnExactSpansOkRow.holds Try.pinned (OpenSpec.ofChange fnExactSpansOkSpec)

/-- ITS FALSE NEIGHBOUR: 'it returns false'. Refute it at one input. -/
def fnExactSpansOkWrong : ChangeSpec := { name := "fnExactSpansOk", fn := fun _ => fun
  | [d] => { results := [.lit (.bool false)], args := [d] }
  | _ => none }
def FnExactSpansOkWrongFalsely : Prop := fnExactSpansOkRow.holds Try.pinned (OpenSpec.ofChange fnExactSpansOkWrong)

/-- 'laws.FnExactBackTurn': WHATEVER THE INPUT: true; the input reads as it did. -/
def fnExactBackTurnSpec : ChangeSpec := { name := "fnExactBackTurn", fn := fun _ => fun
  | [d] => { results := [.lit (.bool true)], args := [d] }
  | _ => none }
def fnExactBackTurnRow : OpenClaim := { program := "ytmgjdmmggdmheaa", sum := "7a100a0a5e6e501964e0d5dd656b4fd376801092b57a3f70ee023305be326182", func := "loop.example/g00987/laws.FnExactBackTurn", spec := "fnExactBackTurn", apart := false }
def FnExactBackTurnSaid : Prop := fnExactBackTurnRow.holds Try.pinned (OpenSpec.ofChange fnExactBackTurnSpec)

/-- ITS FALSE NEIGHBOUR: 'it returns false'. Refute it at one input. -/
def fnExactBackTurnWrong : ChangeSpec := { name := "fnExactBackTurn", fn := fun _ => fun
  | [d] => { results := [.lit (.bool false)], args := [d] }
  | _ => none }
def FnExactBackTurnWrongFalsely : Prop := fnExactBackTurnRow.holds Try.pinned (OpenSpec.ofChange fnExactBackTurnWrong)

/-- 'laws.FnExactApplyTurn': WHATEVER THE INPUT: true; the input reads as it did. -/
def fnExactApplyTurnSpec : ChangeSpec := { name := "fnExactApplyTurn", fn := fun _ => fun
  | [d1, d2] => { results := [.lit (.bool true)], args := [d1, d2] }
  | _ => none }
def fnExactApplyTurnRow : OpenClaim := { program := "ytmgjdmmggdmheaa", sum := "7a100a0a5e6e501964e0d5dd656b4fd376801092b57a3f70ee023305be326182", func := "loop.example/g00987/laws.FnExactApplyTurn", spec := "fnExactApplyTurn", apart := false }
def FnExactApplyTurnSaid : Prop := fnExactApplyTurnRow.holds Try.pinned (OpenSpec.ofChange fnExactApplyTurnSpec)

/-- ITS FALSE NEIGHBOUR: 'it returns false'. Refute it at one input. -/
def fnExactApplyTurnWrong : ChangeSpec := { name := "fnExactApplyTurn", fn := fun _ => fun
  | [d1, d2] => { results := [.lit (.bool false)], args := [d1, d2] }
  | _ => none }
def FnExactApplyTurnWrongFalsely : Prop := fnExactApplyTurnRow.holds Try.pinned (OpenSpec.ofChange fnExactApplyTurnWrong)

/-- 'laws.FnExactDecodeHex': WHATEVER THE INPUT: true; the input reads as it did. -/
def fnExactDecodeHexSpec : ChangeSpec := { name := "fnExactDecodeHex", fn := fun _ => fun
  | [d] => { results := [.lit (.bool true)], args := [d] }
  | _ => none }
def fnExactDecodeHexRow : OpenClaim := { program := "ytmgjdmmggdmheaa", sum := "7a100a0a5e6e501964e0d5dd656b4fd376801092b57a3f70ee023305be326182", func := "loop.example/g00987/laws.FnExactDecodeHex", spec := "fnExactDecodeHex", inPlace := ["internal/abi.NoEscape"], unfollowed := true, recurses := true, apart := false }
def FnExactDecodeHexSaid : Prop := fnExactDecodeHexRow.holds Try.pinned (OpenSpec.ofChange fnExactDecodeHexSpec)

/-- ITS FALSE NEIGHBOUR: 'it returns false'. Refute it at one input. -/
def fnExactDecodeHexWrong : ChangeSpec := { name := "fnExactDecodeHex", fn := fun _ => fun
  | [d] => { results := [.lit (.bool false)], args := [d] }
  | _ => none }
def FnExactDecodeHexWrongFalsely : Prop := fnExactDecodeHexRow.holds Try.pinned (OpenSpec.ofChange fnExactDecodeHexWrong)

/-- 'laws.FnExactJoinTurns': WHATEVER THE INPUT: true; the input reads as it did. -/
def fnExactJoinTurnsSpec : ChangeSpec := { name := "fnExactJoinTurns", fn := fun _ => fun
  | [d1, d2] => { results := [.lit (.bool true)], args := [d1, d2] }
  | _ => none }
def fnExactJoinTurnsRow : OpenClaim := { program := "ytmgjdmmggdmheaa", sum := "7a100a0a5e6e501964e0d5dd656b4fd376801092b57a3f70ee023305be326182", func := "loop.example/g00987/laws.FnExactJoinTurns", spec := "fnExactJoinTurns", apart := false }
def FnExactJoinTurnsSaid : Prop := fnExactJoinTurnsRow.holds Try.pinned (OpenSpec.ofChange fnExactJoinTurnsSpec)

/-- ITS FALSE NEIGHBOUR: 'it returns false'. Refute it at one input. -/
def fnExactJoinTurnsWrong : ChangeSpec := { name := "fnExactJoinTurns", fn := fun _ => fun
  | [d1, d2] => { results := [.lit (.bool false)], args := [d1, d2] }
  | _ => none }
def FnExactJoinTurnsWrongFalsely : Prop := fnExactJoinTurnsRow.holds Try.pinned (OpenSpec.ofChange fnExactJoinTurnsWrong)

/-- 'laws.FnExactSpanDots': WHATEVER THE INPUT: true; the input reads as it did. -/
def fnExactSpanDotsSpec : ChangeSpec := { name := "fnExactSpanDots", fn := fun _ => fun
  | [d] => { results := [.lit (.bool true)], args := [d] }
  | _ => none }
def fnExactSpanDotsRow : OpenClaim := { program := "ytmgjdmmggdmheaa", sum := "7a100a0a5e6e501964e0d5dd656b4fd376801092b57a3f70ee023305be326182", func := "loop.example/g00987/laws.FnExactSpanDots", spec := "fnExactSpanDots", apart := false }
def FnExactSpanDotsSaid : Prop := fnExactSpanDotsRow.holds Try.pinned (OpenSpec.ofChange fnExactSpanDotsSpec)

/-- ITS FALSE NEIGHBOUR: 'it returns false'. Refute it at one input. -/
def fnExactSpanDotsWrong : ChangeSpec := { name := "fnExactSpanDots", fn := fun _ => fun
  | [d] => { results := [.lit (.bool false)], args := [d] }
  | _ => none }
def FnExactSpanDotsWrongFalsely : Prop := fnExactSpanDotsRow.holds Try.pinned (OpenSpec.ofChange fnExactSpanDotsWrong)

/-- 'laws.FnExactPushNumber': WHATEVER THE INPUT: true; the input reads as it did. -/
def fnExactPushNumberSpec : ChangeSpec := { name := "fnExactPushNumber", fn := fun _ => fun
  | [d1, d2] => { results := [.lit (.bool true)], args := [d1, d2] }
  | _ => none }
def fnExactPushNumberRow : OpenClaim := { program := "ytmgjdmmggdmheaa", sum := "7a100a0a5e6e501964e0d5dd656b4fd376801092b57a3f70ee023305be326182", func := "loop.example/g00987/laws.FnExactPushNumber", spec := "fnExactPushNumber", apart := false }
def FnExactPushNumberSaid : Prop := fnExactPushNumberRow.holds Try.pinned (OpenSpec.ofChange fnExactPushNumberSpec)

/-- ITS FALSE NEIGHBOUR: 'it returns false'. Refute it at one input. -/
def fnExactPushNumberWrong : ChangeSpec := { name := "fnExactPushNumber", fn := fun _ => fun
  | [d1, d2] => { results := [.lit (.bool false)], args := [d1, d2] }
  | _ => none }
def FnExactPushNumberWrongFalsely : Prop := fnExactPushNumberRow.holds Try.pinned (OpenSpec.ofChange fnExactPushNumberWrong)

/- THE SECOND FORM. 'bulk': how many values and letters a reading holds, each counted each time it is reached (what is shared counts as often as it is met; a slice's spare places count too). A statement '..UptoSaid' is the law's where the arguments, and the package variables that the reading takes, are together of bulk at most 1048576: NARROWER than '..Said'. Prove '..Said' where nothing that the law and all that it calls make is longer than what came in: it says more and counts as full. Else prove '..UptoSaid'. A law counts once. -/
mutual
def uptoBulk {H : Type} : DataW H → Nat
  | .lit (.string bytes) => bytes.length + 1
  | .lit _ => 1
  | .nil => 1
  | .ptr d => uptoBulk d + 1
  | .slice elems spare => uptoBulkAll elems + uptoBulkAll spare + 1
  | .agg parts => uptoBulkAll parts + 1
  | .iface _ d => uptoBulk d + 1
  | .map entries => uptoBulkEntries entries + 1
  | .held _ => 1
def uptoBulkAll {H : Type} : List (DataW H) → Nat
  | [] => 0
  | d :: r => uptoBulk d + uptoBulkAll r
def uptoBulkEntries {H : Type} : List (Lit × DataW H) → Nat
  | [] => 0
  | x :: r => uptoBulkEntry x + uptoBulkEntries r
def uptoBulkEntry {H : Type} : Lit × DataW H → Nat
  | (.string bytes, d) => bytes.length + uptoBulk d + 1
  | (_, d) => uptoBulk d + 1
 end
def uptoSmall : (H : Type) → List (DataW H) → Bool := fun _ ds => decide (uptoBulkAll ds ≤ 1048576)
def OpenSpec.upto (s : _root_.Go.ChangeSpec) : _root_.Go.OpenSpec := { _root_.Go.OpenSpec.ofChange s with cond := some uptoSmall }

/-- 'laws.FnSpans', WHERE WHAT IT READS IS OF BULK AT MOST 1048576: true; the input reads as it did. -/
def fnSpansUptoRow : OpenClaim := { program := "ytmgjdmmggdmheaa", sum := "7a100a0a5e6e501964e0d5dd656b4fd376801092b57a3f70ee023305be326182", func := "loop.example/g00987/laws.FnSpans", spec := "fnSpans", apart := false, narrowed := true }
def FnSpansUptoSaid : Prop := fnSpansUptoRow.holds Try.pinned (OpenSpec.upto fnSpansSpec)

/-- 'laws.FnExactMeetBox', WHERE WHAT IT READS IS OF BULK AT MOST 1048576: true; the input reads as it did. -/
def fnExactMeetBoxUptoRow : OpenClaim := { program := "ytmgjdmmggdmheaa", sum := "7a100a0a5e6e501964e0d5dd656b4fd376801092b57a3f70ee023305be326182", func := "loop.example/g00987/laws.FnExactMeetBox", spec := "fnExactMeetBox", apart := false, narrowed := true }
def FnExactMeetBoxUptoSaid : Prop := fnExactMeetBoxUptoRow.holds Try.pinned (OpenSpec.upto fnExactMeetBoxSpec)

/-- 'laws.FnExactEncodeHex', WHERE WHAT IT READS IS OF BULK AT MOST 1048576: true; the input reads as it did. -/
def fnExactEncodeHexUptoRow : OpenClaim := { program := "ytmgjdmmggdmheaa", sum := "7a100a0a5e6e501964e0d5dd656b4fd376801092b57a3f70ee023305be326182", func := "loop.example/g00987/laws.FnExactEncodeHex", spec := "fnExactEncodeHex", inPlace := ["internal/abi.NoEscape"], apart := false, narrowed := true }
def FnExactEncodeHexUptoSaid : Prop := fnExactEncodeHexUptoRow.holds Try.pinned (OpenSpec.upto fnExactEncodeHexSpec)

/-- 'laws.FnClamped', WHERE WHAT IT READS IS OF BULK AT MOST 1048576: true; the input reads as it did. -/
def fnClampedUptoRow : OpenClaim := { program := "ytmgjdmmggdmheaa", sum := "7a100a0a5e6e501964e0d5dd656b4fd376801092b57a3f70ee023305be326182", func := "loop.example/g00987/laws.FnClamped", spec := "fnClamped", apart := false, narrowed := true }
def FnClampedUptoSaid : Prop := fnClampedUptoRow.holds Try.pinned (OpenSpec.upto fnClampedSpec)

/-- 'laws.FnExactInSpans', WHERE WHAT IT READS IS OF BULK AT MOST 1048576: true; the input reads as it did. -/
def fnExactInSpansUptoRow : OpenClaim := { program := "ytmgjdmmggdmheaa", sum := "7a100a0a5e6e501964e0d5dd656b4fd376801092b57a3f70ee023305be326182", func := "loop.example/g00987/laws.FnExactInSpans", spec := "fnExactInSpans", apart := false, narrowed := true }
def FnExactInSpansUptoSaid : Prop := fnExactInSpansUptoRow.holds Try.pinned (OpenSpec.upto fnExactInSpansSpec)

/-- 'laws.FnExactSpansOk', WHERE WHAT IT READS IS OF BULK AT MOST 1048576: true; the input reads as it did. -/
def fnExactSpansOkUptoRow : OpenClaim := { program := "ytmgjdmmggdmheaa", sum := "7a100a0a5e6e501964e0d5dd656b4fd376801092b57a3f70ee023305be326182", func := "loop.example/g00987/laws.FnExactSpansOk", spec := "fnExactSpansOk", apart := false, narrowed := true }
def FnExactSpansOkUptoSaid : Prop := fnExactSpansOkUptoRow.holds Try.pinned (OpenSpec.upto fnExactSpansOkSpec)

/-- 'laws.FnExactBackTurn', WHERE WHAT IT READS IS OF BULK AT MOST 1048576: true; the input reads as it did. -/
def fnExactBackTurnUptoRow : OpenClaim := { program := "ytmgjdmmggdmheaa", sum := "7a100a0a5e6e501964e0d5dd656b4fd376801092b57a3f70ee023305be326182", func := "loop.example/g00987/laws.FnExactBackTurn", spec := "fnExactBackTurn", apart := false, narrowed := true }
def FnExactBackTurnUptoSaid : Prop := fnExactBackTurnUptoRow.holds Try.pinned (OpenSpec.upto fnExactBackTurnSpec)

/-- 'laws.FnExactApplyTurn', WHERE WHAT IT READS IS OF BULK AT MOST 1048576: true; the input reads as it did. -/
def fnExactApplyTurnUptoRow : OpenClaim := { program := "ytmgjdmmggdmheaa", sum := "7a100a0a5e6e501964e0d5dd656b4fd376801092b57a3f70ee023305be326182", func := "loop.example/g00987/laws.FnExactApplyTurn", spec := "fnExactApplyTurn", apart := false, narrowed := true }
def FnExactApplyTurnUptoSaid : Prop := fnExactApplyTurnUptoRow.holds Try.pinned (OpenSpec.upto fnExactApplyTurnSpec)

/-- 'laws.FnExactDecodeHex', WHERE WHAT IT READS IS OF BULK AT MOST 1048576: true; the input reads as it did. -/
def fnExactDecodeHexUptoRow : OpenClaim := { program := "ytmgjdmmggdmheaa", sum := "7a100a0a5e6e501964e0d5dd656b4fd376801092b57a3f70ee023305be326182", func := "loop.example/g00987/laws.FnExactDecodeHex", spec := "fnExactDecodeHex", inPlace := ["internal/abi.NoEscape"], unfollowed := true, recurses := true, apart := false, narrowed := true }
def FnExactDecodeHexUptoSaid : Prop := fnExactDecodeHexUptoRow.holds Try.pinned (OpenSpec.upto fnExactDecodeHexSpec)

/-- 'laws.FnExactJoinTurns', WHERE WHAT IT READS IS OF BULK AT MOST 1048576: true; the input reads as it did. -/
def fnExactJoinTurnsUptoRow : OpenClaim := { program := "ytmgjdmmggdmheaa", sum := "7a100a0a5e6e501964e0d5dd656b4fd376801092b57a3f70ee023305be326182", func := "loop.example/g00987/laws.FnExactJoinTurns", spec := "fnExactJoinTurns", apart := false, narrowed := true }
def FnExactJoinTurnsUptoSaid : Prop := fnExactJoinTurnsUptoRow.holds Try.pinned (OpenSpec.upto fnExactJoinTurnsSpec)

/-- 'laws.FnExactSpanDots', WHERE WHAT IT READS IS OF BULK AT MOST 1048576: true; the input reads as it did. -/
def fnExactSpanDotsUptoRow : OpenClaim := { program := "ytmgjdmmggdmheaa", sum := "7a100a0a5e6e501964e0d5dd656b4fd376801092b57a3f70ee023305be326182", func := "loop.example/g00987/laws.FnExactSpanDots", spec := "fnExactSpanDots", apart := false, narrowed := true }
def FnExactSpanDotsUptoSaid : Prop := fnExactSpanDotsUptoRow.holds Try.pinned (OpenSpec.upto fnExactSpanDotsSpec)

/-- 'laws.FnExactPushNumber', WHERE WHAT IT READS IS OF BULK AT MOST 1048576: true; the input reads as it did. -/
def fnExactPushNumberUptoRow : OpenClaim := { program := "ytmgjdmmggdmheaa", sum := "7a100a0a5e6e501964e0d5dd656b4fd376801092b57a3f70ee023305be326182", func := "loop.example/g00987/laws.FnExactPushNumber", spec := "fnExactPushNumber", apart := false, narrowed := true }
def FnExactPushNumberUptoSaid : Prop := fnExactPushNumberUptoRow.holds Try.pinned (OpenSpec.upto fnExactPushNumberSpec)

end Rows
end Go.Proofs.Ytmgjdmmggdmheaa
