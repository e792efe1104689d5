/-
  No cell of these rows narrows 'for every input' (looked for: loops, veiled, ifaces, maps, wideKeys, modest, calm, conditions, laid).
  DERIVED. THE GIVEN ROWS OF THIS SEAT. 8 by the template 'for every input the law returns true; each argument reads behind the call as it read before'; 0 by the template 'total and deterministic' (their statements: YtmhnnmjjebolpaaTotals.lean).
  GIVEN WITH THE SEED: the statements are not yours to turn. If you find one false, say at which input.
  Laid BY PROGRAM, IN A SANDBOX (cutbox-rows.mjs): the forced cells as the released guide's own fill.sh prints them over the translation dd19ddfdbfec37d7… (all of the seat's roots in one cut). By AI agents, Wed Nov 11 2026. No macro, syntax, notation, axiom, sorry.
-/
import Derived.Test.YtmhnnmjjebolpaaChecked
import GoSem.Claim
import GoSem.ClaimJoined
import GoSem.ClaimMapViews
import Derived.JoinedTies
import Derived.KernelRfl
namespace Go.Proofs.Ytmhnnmjjebolpaa
/- THE CELL 'sum', in the pinned program and in every row, IS THE sha256 OF THE DUMP (.gsa) THAT YtmhnnmjjebolpaaProg.lean LOADS. Nothing in Lean hashes anything: it is a label: what it is worth is what the hold of that sum in a sandbox is worth. -/
noncomputable def Try.pinned : Pinned := { name := "ytmhnnmjjebolpaa", sum := "dd19ddfdbfec37d71f5d57491af3c92a603bc1fb869c1781d4f3bcd3749f6c04", checked := Try.checked }
namespace Rows
def none {H : Type} : Left H := { results := [], args := [] }

/-- 'laws.FnInside': WHATEVER THE INPUT: true; the input reads as it did. -/
def fnInsideSpec : ChangeSpec := { name := "fnInside", fn := fun _ => fun
  | [d] => { results := [.lit (.bool true)], args := [d] }
  | _ => none }
def fnInsideRow : OpenClaim := { program := "ytmhnnmjjebolpaa", sum := "dd19ddfdbfec37d71f5d57491af3c92a603bc1fb869c1781d4f3bcd3749f6c04", func := "loop.example/g00987/laws.FnInside", spec := "fnInside", apart := false }
def FnInsideSaid : Prop := fnInsideRow.holds Try.pinned (OpenSpec.ofChange fnInsideSpec)

/-- ITS FALSE NEIGHBOUR: 'it returns false'. Refute it at one input. -/
def fnInsideWrong : ChangeSpec := { name := "fnInside", fn := fun _ => fun
  | [d] => { results := [.lit (.bool false)], args := [d] }
  | _ => none }
def FnInsideWrongFalsely : Prop := fnInsideRow.holds Try.pinned (OpenSpec.ofChange fnInsideWrong)

/-- 'laws.FnExactBlocksOk': WHATEVER THE INPUT: true; the input reads as it did. -/
def fnExactBlocksOkSpec : ChangeSpec := { name := "fnExactBlocksOk", fn := fun _ => fun
  | [d] => { results := [.lit (.bool true)], args := [d] }
  | _ => none }
def fnExactBlocksOkRow : OpenClaim := { program := "ytmhnnmjjebolpaa", sum := "dd19ddfdbfec37d71f5d57491af3c92a603bc1fb869c1781d4f3bcd3749f6c04", func := "loop.example/g00987/laws.FnExactBlocksOk", spec := "fnExactBlocksOk", apart := false }
def FnExactBlocksOkSaid : Prop := fnExactBlocksOkRow.holds Try.pinned (OpenSpec.ofChange fnExactBlocksOkSpec)

/-- ITS FALSE NEIGHBOUR: 'it returns false'. Refute it at one input. -/
def fnExactBlocksOkWrong : ChangeSpec := { name := "fnExactBlocksOk", fn := fun _ => fun
  | [d] => { results := [.lit (.bool false)], args := [d] }
  | _ => none }
def FnExactBlocksOkWrongFalsely : Prop := fnExactBlocksOkRow.holds Try.pinned (OpenSpec.ofChange fnExactBlocksOkWrong)

/-- 'laws.FnExactStackOp': WHATEVER THE INPUT: true; the input reads as it did. -/
def fnExactStackOpSpec : ChangeSpec := { name := "fnExactStackOp", fn := fun _ => fun
  | [d1, d2] => { results := [.lit (.bool true)], args := [d1, d2] }
  | _ => none }
def fnExactStackOpRow : OpenClaim := { program := "ytmhnnmjjebolpaa", sum := "dd19ddfdbfec37d71f5d57491af3c92a603bc1fb869c1781d4f3bcd3749f6c04", func := "loop.example/g00987/laws.FnExactStackOp", spec := "fnExactStackOp", apart := false }
def FnExactStackOpSaid : Prop := fnExactStackOpRow.holds Try.pinned (OpenSpec.ofChange fnExactStackOpSpec)

/-- ITS FALSE NEIGHBOUR: 'it returns false'. Refute it at one input. -/
def fnExactStackOpWrong : ChangeSpec := { name := "fnExactStackOp", fn := fun _ => fun
  | [d1, d2] => { results := [.lit (.bool false)], args := [d1, d2] }
  | _ => none }
def FnExactStackOpWrongFalsely : Prop := fnExactStackOpRow.holds Try.pinned (OpenSpec.ofChange fnExactStackOpWrong)

/-- 'laws.FnExactBlockDepth': WHATEVER THE INPUT: true; the input reads as it did. -/
def fnExactBlockDepthSpec : ChangeSpec := { name := "fnExactBlockDepth", fn := fun _ => fun
  | [d] => { results := [.lit (.bool true)], args := [d] }
  | _ => none }
def fnExactBlockDepthRow : OpenClaim := { program := "ytmhnnmjjebolpaa", sum := "dd19ddfdbfec37d71f5d57491af3c92a603bc1fb869c1781d4f3bcd3749f6c04", func := "loop.example/g00987/laws.FnExactBlockDepth", spec := "fnExactBlockDepth", apart := false }
def FnExactBlockDepthSaid : Prop := fnExactBlockDepthRow.holds Try.pinned (OpenSpec.ofChange fnExactBlockDepthSpec)

/-- ITS FALSE NEIGHBOUR: 'it returns false'. Refute it at one input. -/
def fnExactBlockDepthWrong : ChangeSpec := { name := "fnExactBlockDepth", fn := fun _ => fun
  | [d] => { results := [.lit (.bool false)], args := [d] }
  | _ => none }
def FnExactBlockDepthWrongFalsely : Prop := fnExactBlockDepthRow.holds Try.pinned (OpenSpec.ofChange fnExactBlockDepthWrong)

/-- 'laws.FnRepeats': WHATEVER THE INPUT: true; the input reads as it did. -/
def fnRepeatsSpec : ChangeSpec := { name := "fnRepeats", fn := fun _ => fun
  | [d] => { results := [.lit (.bool true)], args := [d] }
  | _ => none }
def fnRepeatsRow : OpenClaim := { program := "ytmhnnmjjebolpaa", sum := "dd19ddfdbfec37d71f5d57491af3c92a603bc1fb869c1781d4f3bcd3749f6c04", func := "loop.example/g00987/laws.FnRepeats", spec := "fnRepeats", recurses := true, apart := false }
def FnRepeatsSaid : Prop := fnRepeatsRow.holds Try.pinned (OpenSpec.ofChange fnRepeatsSpec)

/-- ITS FALSE NEIGHBOUR: 'it returns false'. Refute it at one input. -/
def fnRepeatsWrong : ChangeSpec := { name := "fnRepeats", fn := fun _ => fun
  | [d] => { results := [.lit (.bool false)], args := [d] }
  | _ => none }
def FnRepeatsWrongFalsely : Prop := fnRepeatsRow.holds Try.pinned (OpenSpec.ofChange fnRepeatsWrong)

/-- 'laws.FnExactGraphicsOk': WHATEVER THE INPUT: true; the input reads as it did. -/
def fnExactGraphicsOkSpec : ChangeSpec := { name := "fnExactGraphicsOk", fn := fun _ => fun
  | [d] => { results := [.lit (.bool true)], args := [d] }
  | _ => none }
def fnExactGraphicsOkRow : OpenClaim := { program := "ytmhnnmjjebolpaa", sum := "dd19ddfdbfec37d71f5d57491af3c92a603bc1fb869c1781d4f3bcd3749f6c04", func := "loop.example/g00987/laws.FnExactGraphicsOk", spec := "fnExactGraphicsOk", apart := false }
def FnExactGraphicsOkSaid : Prop := fnExactGraphicsOkRow.holds Try.pinned (OpenSpec.ofChange fnExactGraphicsOkSpec)

/-- ITS FALSE NEIGHBOUR: 'it returns false'. Refute it at one input. -/
def fnExactGraphicsOkWrong : ChangeSpec := { name := "fnExactGraphicsOk", fn := fun _ => fun
  | [d] => { results := [.lit (.bool false)], args := [d] }
  | _ => none }
def FnExactGraphicsOkWrongFalsely : Prop := fnExactGraphicsOkRow.holds Try.pinned (OpenSpec.ofChange fnExactGraphicsOkWrong)

/-- 'laws.FnExactFlatLength': WHATEVER THE INPUT: true; the input reads as it did. -/
def fnExactFlatLengthSpec : ChangeSpec := { name := "fnExactFlatLength", fn := fun _ => fun
  | [d] => { results := [.lit (.bool true)], args := [d] }
  | _ => none }
def fnExactFlatLengthRow : OpenClaim := { program := "ytmhnnmjjebolpaa", sum := "dd19ddfdbfec37d71f5d57491af3c92a603bc1fb869c1781d4f3bcd3749f6c04", func := "loop.example/g00987/laws.FnExactFlatLength", spec := "fnExactFlatLength", recurses := true, apart := false }
def FnExactFlatLengthSaid : Prop := fnExactFlatLengthRow.holds Try.pinned (OpenSpec.ofChange fnExactFlatLengthSpec)

/-- ITS FALSE NEIGHBOUR: 'it returns false'. Refute it at one input. -/
def fnExactFlatLengthWrong : ChangeSpec := { name := "fnExactFlatLength", fn := fun _ => fun
  | [d] => { results := [.lit (.bool false)], args := [d] }
  | _ => none }
def FnExactFlatLengthWrongFalsely : Prop := fnExactFlatLengthRow.holds Try.pinned (OpenSpec.ofChange fnExactFlatLengthWrong)

/-- 'laws.FnExactFlattenBlocks': WHATEVER THE INPUT: true; the input reads as it did. -/
def fnExactFlattenBlocksSpec : ChangeSpec := { name := "fnExactFlattenBlocks", fn := fun _ => fun
  | [d] => { results := [.lit (.bool true)], args := [d] }
  | _ => none }
def fnExactFlattenBlocksRow : OpenClaim := { program := "ytmhnnmjjebolpaa", sum := "dd19ddfdbfec37d71f5d57491af3c92a603bc1fb869c1781d4f3bcd3749f6c04", func := "loop.example/g00987/laws.FnExactFlattenBlocks", spec := "fnExactFlattenBlocks", recurses := true, apart := false }
def FnExactFlattenBlocksSaid : Prop := fnExactFlattenBlocksRow.holds Try.pinned (OpenSpec.ofChange fnExactFlattenBlocksSpec)

/-- ITS FALSE NEIGHBOUR: 'it returns false'. Refute it at one input. -/
def fnExactFlattenBlocksWrong : ChangeSpec := { name := "fnExactFlattenBlocks", fn := fun _ => fun
  | [d] => { results := [.lit (.bool false)], args := [d] }
  | _ => none }
def FnExactFlattenBlocksWrongFalsely : Prop := fnExactFlattenBlocksRow.holds Try.pinned (OpenSpec.ofChange fnExactFlattenBlocksWrong)

/- THE SECOND FORM. 'bulk': how many values and letters a reading holds, each counted each time it is reached (what is shared counts as often as it is met; a slice's spare places count too). A statement '..UptoSaid' is the law's where the arguments, and the package variables that the reading takes, are together of bulk at most 1048576: NARROWER than '..Said'. Prove '..Said' where nothing that the law and all that it calls make is longer than what came in: it says more and counts as full. Else prove '..UptoSaid'. A law counts once. -/
mutual
def uptoBulk {H : Type} : DataW H → Nat
  | .lit (.string bytes) => bytes.length + 1
  | .lit _ => 1
  | .nil => 1
  | .ptr d => uptoBulk d + 1
  | .slice elems spare => uptoBulkAll elems + uptoBulkAll spare + 1
  | .agg parts => uptoBulkAll parts + 1
  | .iface _ d => uptoBulk d + 1
  | .map entries => uptoBulkEntries entries + 1
  | .held _ => 1
def uptoBulkAll {H : Type} : List (DataW H) → Nat
  | [] => 0
  | d :: r => uptoBulk d + uptoBulkAll r
def uptoBulkEntries {H : Type} : List (Lit × DataW H) → Nat
  | [] => 0
  | x :: r => uptoBulkEntry x + uptoBulkEntries r
def uptoBulkEntry {H : Type} : Lit × DataW H → Nat
  | (.string bytes, d) => bytes.length + uptoBulk d + 1
  | (_, d) => uptoBulk d + 1
 end
def uptoSmall : (H : Type) → List (DataW H) → Bool := fun _ ds => decide (uptoBulkAll ds ≤ 1048576)
def OpenSpec.upto (s : _root_.Go.ChangeSpec) : _root_.Go.OpenSpec := { _root_.Go.OpenSpec.ofChange s with cond := some uptoSmall }

/-- 'laws.FnInside', WHERE WHAT IT READS IS OF BULK AT MOST 1048576: true; the input reads as it did. -/
def fnInsideUptoRow : OpenClaim := { program := "ytmhnnmjjebolpaa", sum := "dd19ddfdbfec37d71f5d57491af3c92a603bc1fb869c1781d4f3bcd3749f6c04", func := "loop.example/g00987/laws.FnInside", spec := "fnInside", apart := false, narrowed := true }
def FnInsideUptoSaid : Prop := fnInsideUptoRow.holds Try.pinned (OpenSpec.upto fnInsideSpec)

/-- 'laws.FnExactBlocksOk', WHERE WHAT IT READS IS OF BULK AT MOST 1048576: true; the input reads as it did. -/
def fnExactBlocksOkUptoRow : OpenClaim := { program := "ytmhnnmjjebolpaa", sum := "dd19ddfdbfec37d71f5d57491af3c92a603bc1fb869c1781d4f3bcd3749f6c04", func := "loop.example/g00987/laws.FnExactBlocksOk", spec := "fnExactBlocksOk", apart := false, narrowed := true }
def FnExactBlocksOkUptoSaid : Prop := fnExactBlocksOkUptoRow.holds Try.pinned (OpenSpec.upto fnExactBlocksOkSpec)

/-- 'laws.FnExactStackOp', WHERE WHAT IT READS IS OF BULK AT MOST 1048576: true; the input reads as it did. -/
def fnExactStackOpUptoRow : OpenClaim := { program := "ytmhnnmjjebolpaa", sum := "dd19ddfdbfec37d71f5d57491af3c92a603bc1fb869c1781d4f3bcd3749f6c04", func := "loop.example/g00987/laws.FnExactStackOp", spec := "fnExactStackOp", apart := false, narrowed := true }
def FnExactStackOpUptoSaid : Prop := fnExactStackOpUptoRow.holds Try.pinned (OpenSpec.upto fnExactStackOpSpec)

/-- 'laws.FnExactBlockDepth', WHERE WHAT IT READS IS OF BULK AT MOST 1048576: true; the input reads as it did. -/
def fnExactBlockDepthUptoRow : OpenClaim := { program := "ytmhnnmjjebolpaa", sum := "dd19ddfdbfec37d71f5d57491af3c92a603bc1fb869c1781d4f3bcd3749f6c04", func := "loop.example/g00987/laws.FnExactBlockDepth", spec := "fnExactBlockDepth", apart := false, narrowed := true }
def FnExactBlockDepthUptoSaid : Prop := fnExactBlockDepthUptoRow.holds Try.pinned (OpenSpec.upto fnExactBlockDepthSpec)

/-- 'laws.FnRepeats', WHERE WHAT IT READS IS OF BULK AT MOST 1048576: true; the input reads as it did. -/
def fnRepeatsUptoRow : OpenClaim := { program := "ytmhnnmjjebolpaa", sum := "dd19ddfdbfec37d71f5d57491af3c92a603bc1fb869c1781d4f3bcd3749f6c04", func := "loop.example/g00987/laws.FnRepeats", spec := "fnRepeats", recurses := true, apart := false, narrowed := true }
def FnRepeatsUptoSaid : Prop := fnRepeatsUptoRow.holds Try.pinned (OpenSpec.upto fnRepeatsSpec)

/-- 'laws.FnExactGraphicsOk', WHERE WHAT IT READS IS OF BULK AT MOST 1048576: true; the input reads as it did. -/
def fnExactGraphicsOkUptoRow : OpenClaim := { program := "ytmhnnmjjebolpaa", sum := "dd19ddfdbfec37d71f5d57491af3c92a603bc1fb869c1781d4f3bcd3749f6c04", func := "loop.example/g00987/laws.FnExactGraphicsOk", spec := "fnExactGraphicsOk", apart := false, narrowed := true }
def FnExactGraphicsOkUptoSaid : Prop := fnExactGraphicsOkUptoRow.holds Try.pinned (OpenSpec.upto fnExactGraphicsOkSpec)

/-- 'laws.FnExactFlatLength', WHERE WHAT IT READS IS OF BULK AT MOST 1048576: true; the input reads as it did. -/
def fnExactFlatLengthUptoRow : OpenClaim := { program := "ytmhnnmjjebolpaa", sum := "dd19ddfdbfec37d71f5d57491af3c92a603bc1fb869c1781d4f3bcd3749f6c04", func := "loop.example/g00987/laws.FnExactFlatLength", spec := "fnExactFlatLength", recurses := true, apart := false, narrowed := true }
def FnExactFlatLengthUptoSaid : Prop := fnExactFlatLengthUptoRow.holds Try.pinned (OpenSpec.upto fnExactFlatLengthSpec)

/-- 'laws.FnExactFlattenBlocks', WHERE WHAT IT READS IS OF BULK AT MOST 1048576: true; the input reads as it did. -/
def fnExactFlattenBlocksUptoRow : OpenClaim := { program := "ytmhnnmjjebolpaa", sum := "dd19ddfdbfec37d71f5d57491af3c92a603bc1fb869c1781d4f3bcd3749f6c04", func := "loop.example/g00987/laws.FnExactFlattenBlocks", spec := "fnExactFlattenBlocks", recurses := true, apart := false, narrowed := true }
def FnExactFlattenBlocksUptoSaid : Prop := fnExactFlattenBlocksUptoRow.holds Try.pinned (OpenSpec.upto fnExactFlattenBlocksSpec)

end Rows
end Go.Proofs.Ytmhnnmjjebolpaa
