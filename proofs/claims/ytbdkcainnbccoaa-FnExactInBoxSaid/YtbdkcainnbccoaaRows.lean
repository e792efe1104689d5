/-
  No cell of these rows narrows 'for every input' (looked for: loops, veiled, ifaces, maps, wideKeys, modest, calm, conditions, laid).
  DERIVED. THE GIVEN ROWS OF THIS SEAT. 12 by the template 'for every input the law returns true; each argument reads behind the call as it read before'; 0 by the template 'total and deterministic' (their statements: YtbdkcainnbccoaaTotals.lean).
  GIVEN WITH THE SEED: the statements are not yours to turn. If you find one false, say at which input.
  Laid BY PROGRAM, IN A SANDBOX (cutbox-rows.mjs): the forced cells as the released guide's own fill.sh prints them over the translation 1c5bd6b7cee0141c… (all of the seat's roots in one cut). By AI agents, Wed Nov 11 2026. No macro, syntax, notation, axiom, sorry.
-/
import Derived.Test.YtbdkcainnbccoaaChecked
import GoSem.Claim
import GoSem.ClaimJoined
import GoSem.ClaimMapViews
import Derived.JoinedTies
import Derived.KernelRfl
namespace Go.Proofs.Ytbdkcainnbccoaa
/- THE CELL 'sum', in the pinned program and in every row, IS THE sha256 OF THE DUMP (.gsa) THAT YtbdkcainnbccoaaProg.lean LOADS. Nothing in Lean hashes anything: it is a label: what it is worth is what the hold of that sum in a sandbox is worth. -/
noncomputable def Try.pinned : Pinned := { name := "ytbdkcainnbccoaa", sum := "1c5bd6b7cee0141c438c49c5a4989a5ca2816d12d35c8a32d338ced9e43ff438", checked := Try.checked }
namespace Rows
def none {H : Type} : Left H := { results := [], args := [] }

/-- 'laws.FnExactConstants': WHATEVER THE INPUT: true; the input reads as it did. -/
def fnExactConstantsSpec : ChangeSpec := { name := "fnExactConstants", fn := fun _ => fun
  | [] => { results := [.lit (.bool true)], args := [] }
  | _ => none }
def fnExactConstantsRow : OpenClaim := { program := "ytbdkcainnbccoaa", sum := "1c5bd6b7cee0141c438c49c5a4989a5ca2816d12d35c8a32d338ced9e43ff438", func := "loop.example/g00987/laws.FnExactConstants", spec := "fnExactConstants", apart := false }
def FnExactConstantsSaid : Prop := fnExactConstantsRow.holds Try.pinned (OpenSpec.ofChange fnExactConstantsSpec)

/-- ITS FALSE NEIGHBOUR: 'it returns false'. Refute it at one input. -/
def fnExactConstantsWrong : ChangeSpec := { name := "fnExactConstants", fn := fun _ => fun
  | [] => { results := [.lit (.bool false)], args := [] }
  | _ => none }
def FnExactConstantsWrongFalsely : Prop := fnExactConstantsRow.holds Try.pinned (OpenSpec.ofChange fnExactConstantsWrong)

/-- 'laws.FnExactPointOk': WHATEVER THE INPUT: true; the input reads as it did. -/
def fnExactPointOkSpec : ChangeSpec := { name := "fnExactPointOk", fn := fun _ => fun
  | [d] => { results := [.lit (.bool true)], args := [d] }
  | _ => none }
def fnExactPointOkRow : OpenClaim := { program := "ytbdkcainnbccoaa", sum := "1c5bd6b7cee0141c438c49c5a4989a5ca2816d12d35c8a32d338ced9e43ff438", func := "loop.example/g00987/laws.FnExactPointOk", spec := "fnExactPointOk", apart := false }
def FnExactPointOkSaid : Prop := fnExactPointOkRow.holds Try.pinned (OpenSpec.ofChange fnExactPointOkSpec)

/-- ITS FALSE NEIGHBOUR: 'it returns false'. Refute it at one input. -/
def fnExactPointOkWrong : ChangeSpec := { name := "fnExactPointOk", fn := fun _ => fun
  | [d] => { results := [.lit (.bool false)], args := [d] }
  | _ => none }
def FnExactPointOkWrongFalsely : Prop := fnExactPointOkRow.holds Try.pinned (OpenSpec.ofChange fnExactPointOkWrong)

/-- 'laws.FnExactIsStackOp': WHATEVER THE INPUT: true; the input reads as it did. -/
def fnExactIsStackOpSpec : ChangeSpec := { name := "fnExactIsStackOp", fn := fun _ => fun
  | [d] => { results := [.lit (.bool true)], args := [d] }
  | _ => none }
def fnExactIsStackOpRow : OpenClaim := { program := "ytbdkcainnbccoaa", sum := "1c5bd6b7cee0141c438c49c5a4989a5ca2816d12d35c8a32d338ced9e43ff438", func := "loop.example/g00987/laws.FnExactIsStackOp", spec := "fnExactIsStackOp", apart := false }
def FnExactIsStackOpSaid : Prop := fnExactIsStackOpRow.holds Try.pinned (OpenSpec.ofChange fnExactIsStackOpSpec)

/-- ITS FALSE NEIGHBOUR: 'it returns false'. Refute it at one input. -/
def fnExactIsStackOpWrong : ChangeSpec := { name := "fnExactIsStackOp", fn := fun _ => fun
  | [d] => { results := [.lit (.bool false)], args := [d] }
  | _ => none }
def FnExactIsStackOpWrongFalsely : Prop := fnExactIsStackOpRow.holds Try.pinned (OpenSpec.ofChange fnExactIsStackOpWrong)

/-- 'laws.FnExactClamp': WHATEVER THE INPUT: true; the input reads as it did. -/
def fnExactClampSpec : ChangeSpec := { name := "fnExactClamp", fn := fun _ => fun
  | [d1, d2, d3] => { results := [.lit (.bool true)], args := [d1, d2, d3] }
  | _ => none }
def fnExactClampRow : OpenClaim := { program := "ytbdkcainnbccoaa", sum := "1c5bd6b7cee0141c438c49c5a4989a5ca2816d12d35c8a32d338ced9e43ff438", func := "loop.example/g00987/laws.FnExactClamp", spec := "fnExactClamp", apart := false }
def FnExactClampSaid : Prop := fnExactClampRow.holds Try.pinned (OpenSpec.ofChange fnExactClampSpec)

/-- ITS FALSE NEIGHBOUR: 'it returns false'. Refute it at one input. -/
def fnExactClampWrong : ChangeSpec := { name := "fnExactClamp", fn := fun _ => fun
  | [d1, d2, d3] => { results := [.lit (.bool false)], args := [d1, d2, d3] }
  | _ => none }
def FnExactClampWrongFalsely : Prop := fnExactClampRow.holds Try.pinned (OpenSpec.ofChange fnExactClampWrong)

/-- 'laws.FnExactIdentity': WHATEVER THE INPUT: true; the input reads as it did. -/
def fnExactIdentitySpec : ChangeSpec := { name := "fnExactIdentity", fn := fun _ => fun
  | [] => { results := [.lit (.bool true)], args := [] }
  | _ => none }
def fnExactIdentityRow : OpenClaim := { program := "ytbdkcainnbccoaa", sum := "1c5bd6b7cee0141c438c49c5a4989a5ca2816d12d35c8a32d338ced9e43ff438", func := "loop.example/g00987/laws.FnExactIdentity", spec := "fnExactIdentity", apart := false }
def FnExactIdentitySaid : Prop := fnExactIdentityRow.holds Try.pinned (OpenSpec.ofChange fnExactIdentitySpec)

/-- ITS FALSE NEIGHBOUR: 'it returns false'. Refute it at one input. -/
def fnExactIdentityWrong : ChangeSpec := { name := "fnExactIdentity", fn := fun _ => fun
  | [] => { results := [.lit (.bool false)], args := [] }
  | _ => none }
def FnExactIdentityWrongFalsely : Prop := fnExactIdentityRow.holds Try.pinned (OpenSpec.ofChange fnExactIdentityWrong)

/-- 'laws.FnExactBoxOk': WHATEVER THE INPUT: true; the input reads as it did. -/
def fnExactBoxOkSpec : ChangeSpec := { name := "fnExactBoxOk", fn := fun _ => fun
  | [d] => { results := [.lit (.bool true)], args := [d] }
  | _ => none }
def fnExactBoxOkRow : OpenClaim := { program := "ytbdkcainnbccoaa", sum := "1c5bd6b7cee0141c438c49c5a4989a5ca2816d12d35c8a32d338ced9e43ff438", func := "loop.example/g00987/laws.FnExactBoxOk", spec := "fnExactBoxOk", apart := false }
def FnExactBoxOkSaid : Prop := fnExactBoxOkRow.holds Try.pinned (OpenSpec.ofChange fnExactBoxOkSpec)

/-- ITS FALSE NEIGHBOUR: 'it returns false'. Refute it at one input. -/
def fnExactBoxOkWrong : ChangeSpec := { name := "fnExactBoxOk", fn := fun _ => fun
  | [d] => { results := [.lit (.bool false)], args := [d] }
  | _ => none }
def FnExactBoxOkWrongFalsely : Prop := fnExactBoxOkRow.holds Try.pinned (OpenSpec.ofChange fnExactBoxOkWrong)

/-- 'laws.FnExactTurnOk': WHATEVER THE INPUT: true; the input reads as it did. -/
def fnExactTurnOkSpec : ChangeSpec := { name := "fnExactTurnOk", fn := fun _ => fun
  | [d] => { results := [.lit (.bool true)], args := [d] }
  | _ => none }
def fnExactTurnOkRow : OpenClaim := { program := "ytbdkcainnbccoaa", sum := "1c5bd6b7cee0141c438c49c5a4989a5ca2816d12d35c8a32d338ced9e43ff438", func := "loop.example/g00987/laws.FnExactTurnOk", spec := "fnExactTurnOk", apart := false }
def FnExactTurnOkSaid : Prop := fnExactTurnOkRow.holds Try.pinned (OpenSpec.ofChange fnExactTurnOkSpec)

/-- ITS FALSE NEIGHBOUR: 'it returns false'. Refute it at one input. -/
def fnExactTurnOkWrong : ChangeSpec := { name := "fnExactTurnOk", fn := fun _ => fun
  | [d] => { results := [.lit (.bool false)], args := [d] }
  | _ => none }
def FnExactTurnOkWrongFalsely : Prop := fnExactTurnOkRow.holds Try.pinned (OpenSpec.ofChange fnExactTurnOkWrong)

/-- 'laws.FnExactIsName': WHATEVER THE INPUT: true; the input reads as it did. -/
def fnExactIsNameSpec : ChangeSpec := { name := "fnExactIsName", fn := fun _ => fun
  | [d] => { results := [.lit (.bool true)], args := [d] }
  | _ => none }
def fnExactIsNameRow : OpenClaim := { program := "ytbdkcainnbccoaa", sum := "1c5bd6b7cee0141c438c49c5a4989a5ca2816d12d35c8a32d338ced9e43ff438", func := "loop.example/g00987/laws.FnExactIsName", spec := "fnExactIsName", apart := false }
def FnExactIsNameSaid : Prop := fnExactIsNameRow.holds Try.pinned (OpenSpec.ofChange fnExactIsNameSpec)

/-- ITS FALSE NEIGHBOUR: 'it returns false'. Refute it at one input. -/
def fnExactIsNameWrong : ChangeSpec := { name := "fnExactIsName", fn := fun _ => fun
  | [d] => { results := [.lit (.bool false)], args := [d] }
  | _ => none }
def FnExactIsNameWrongFalsely : Prop := fnExactIsNameRow.holds Try.pinned (OpenSpec.ofChange fnExactIsNameWrong)

/-- 'laws.FnExactInBox': WHATEVER THE INPUT: true; the input reads as it did. -/
def fnExactInBoxSpec : ChangeSpec := { name := "fnExactInBox", fn := fun _ => fun
  | [d1, d2, d3] => { results := [.lit (.bool true)], args := [d1, d2, d3] }
  | _ => none }
def fnExactInBoxRow : OpenClaim := { program := "ytbdkcainnbccoaa", sum := "1c5bd6b7cee0141c438c49c5a4989a5ca2816d12d35c8a32d338ced9e43ff438", func := "loop.example/g00987/laws.FnExactInBox", spec := "fnExactInBox", apart := false }
def FnExactInBoxSaid : Prop := fnExactInBoxRow.holds Try.pinned (OpenSpec.ofChange fnExactInBoxSpec)

/-- ITS FALSE NEIGHBOUR: 'it returns false'. Refute it at one input. -/
def fnExactInBoxWrong : ChangeSpec := { name := "fnExactInBox", fn := fun _ => fun
  | [d1, d2, d3] => { results := [.lit (.bool false)], args := [d1, d2, d3] }
  | _ => none }
def FnExactInBoxWrongFalsely : Prop := fnExactInBoxRow.holds Try.pinned (OpenSpec.ofChange fnExactInBoxWrong)

/-- 'laws.FnExactCountDots': WHATEVER THE INPUT: true; the input reads as it did. -/
def fnExactCountDotsSpec : ChangeSpec := { name := "fnExactCountDots", fn := fun _ => fun
  | [d] => { results := [.lit (.bool true)], args := [d] }
  | _ => none }
def fnExactCountDotsRow : OpenClaim := { program := "ytbdkcainnbccoaa", sum := "1c5bd6b7cee0141c438c49c5a4989a5ca2816d12d35c8a32d338ced9e43ff438", func := "loop.example/g00987/laws.FnExactCountDots", spec := "fnExactCountDots", apart := false }
def FnExactCountDotsSaid : Prop := fnExactCountDotsRow.holds Try.pinned (OpenSpec.ofChange fnExactCountDotsSpec)

/-- ITS FALSE NEIGHBOUR: 'it returns false'. Refute it at one input. -/
def fnExactCountDotsWrong : ChangeSpec := { name := "fnExactCountDots", fn := fun _ => fun
  | [d] => { results := [.lit (.bool false)], args := [d] }
  | _ => none }
def FnExactCountDotsWrongFalsely : Prop := fnExactCountDotsRow.holds Try.pinned (OpenSpec.ofChange fnExactCountDotsWrong)

/-- 'laws.FnExactStackOk': WHATEVER THE INPUT: true; the input reads as it did. -/
def fnExactStackOkSpec : ChangeSpec := { name := "fnExactStackOk", fn := fun _ => fun
  | [d] => { results := [.lit (.bool true)], args := [d] }
  | _ => none }
def fnExactStackOkRow : OpenClaim := { program := "ytbdkcainnbccoaa", sum := "1c5bd6b7cee0141c438c49c5a4989a5ca2816d12d35c8a32d338ced9e43ff438", func := "loop.example/g00987/laws.FnExactStackOk", spec := "fnExactStackOk", apart := false }
def FnExactStackOkSaid : Prop := fnExactStackOkRow.holds Try.pinned (OpenSpec.ofChange fnExactStackOkSpec)

/-- ITS FALSE NEIGHBOUR: 'it returns false'. Refute it at one input. -/
def fnExactStackOkWrong : ChangeSpec := { name := "fnExactStackOk", fn := fun _ => fun
  | [d] => { results := [.lit (.bool false)], args := [d] }
  | _ => none }
def FnExactStackOkWrongFalsely : Prop := fnExactStackOkRow.holds Try.pinned (OpenSpec.ofChange fnExactStackOkWrong)

/-- 'laws.FnExactTokenOk': WHATEVER THE INPUT: true; the input reads as it did. -/
def fnExactTokenOkSpec : ChangeSpec := { name := "fnExactTokenOk", fn := fun _ => fun
  | [d] => { results := [.lit (.bool true)], args := [d] }
  | _ => none }
def fnExactTokenOkRow : OpenClaim := { program := "ytbdkcainnbccoaa", sum := "1c5bd6b7cee0141c438c49c5a4989a5ca2816d12d35c8a32d338ced9e43ff438", func := "loop.example/g00987/laws.FnExactTokenOk", spec := "fnExactTokenOk", apart := false }
def FnExactTokenOkSaid : Prop := fnExactTokenOkRow.holds Try.pinned (OpenSpec.ofChange fnExactTokenOkSpec)

/-- ITS FALSE NEIGHBOUR: 'it returns false'. Refute it at one input. -/
def fnExactTokenOkWrong : ChangeSpec := { name := "fnExactTokenOk", fn := fun _ => fun
  | [d] => { results := [.lit (.bool false)], args := [d] }
  | _ => none }
def FnExactTokenOkWrongFalsely : Prop := fnExactTokenOkRow.holds Try.pinned (OpenSpec.ofChange fnExactTokenOkWrong)

/- THE SECOND FORM. 'bulk': how many values and letters a reading holds, each counted each time it is reached (what is shared counts as often as it is met; a slice's spare places count too). A statement '..UptoSaid' is the law's where the arguments, and the package variables that the reading takes, are together of bulk at most 1048576: NARROWER than '..Said'. Prove '..Said' where nothing that the law and all that it calls make is longer than what came in: it says more and counts as full. Else prove '..UptoSaid'. A law counts once. -/
mutual
def uptoBulk {H : Type} : DataW H → Nat
  | .lit (.string bytes) => bytes.length + 1
  | .lit _ => 1
  | .nil => 1
  | .ptr d => uptoBulk d + 1
  | .slice elems spare => uptoBulkAll elems + uptoBulkAll spare + 1
  | .agg parts => uptoBulkAll parts + 1
  | .iface _ d => uptoBulk d + 1
  | .map entries => uptoBulkEntries entries + 1
  | .held _ => 1
def uptoBulkAll {H : Type} : List (DataW H) → Nat
  | [] => 0
  | d :: r => uptoBulk d + uptoBulkAll r
def uptoBulkEntries {H : Type} : List (Lit × DataW H) → Nat
  | [] => 0
  | x :: r => uptoBulkEntry x + uptoBulkEntries r
def uptoBulkEntry {H : Type} : Lit × DataW H → Nat
  | (.string bytes, d) => bytes.length + uptoBulk d + 1
  | (_, d) => uptoBulk d + 1
 end
def uptoSmall : (H : Type) → List (DataW H) → Bool := fun _ ds => decide (uptoBulkAll ds ≤ 1048576)
def OpenSpec.upto (s : _root_.Go.ChangeSpec) : _root_.Go.OpenSpec := { _root_.Go.OpenSpec.ofChange s with cond := some uptoSmall }

/-- 'laws.FnExactConstants', WHERE WHAT IT READS IS OF BULK AT MOST 1048576: true; the input reads as it did. -/
def fnExactConstantsUptoRow : OpenClaim := { program := "ytbdkcainnbccoaa", sum := "1c5bd6b7cee0141c438c49c5a4989a5ca2816d12d35c8a32d338ced9e43ff438", func := "loop.example/g00987/laws.FnExactConstants", spec := "fnExactConstants", apart := false, narrowed := true }
def FnExactConstantsUptoSaid : Prop := fnExactConstantsUptoRow.holds Try.pinned (OpenSpec.upto fnExactConstantsSpec)

/-- 'laws.FnExactPointOk', WHERE WHAT IT READS IS OF BULK AT MOST 1048576: true; the input reads as it did. -/
def fnExactPointOkUptoRow : OpenClaim := { program := "ytbdkcainnbccoaa", sum := "1c5bd6b7cee0141c438c49c5a4989a5ca2816d12d35c8a32d338ced9e43ff438", func := "loop.example/g00987/laws.FnExactPointOk", spec := "fnExactPointOk", apart := false, narrowed := true }
def FnExactPointOkUptoSaid : Prop := fnExactPointOkUptoRow.holds Try.pinned (OpenSpec.upto fnExactPointOkSpec)

/-- 'laws.FnExactIsStackOp', WHERE WHAT IT READS IS OF BULK AT MOST 1048576: true; the input reads as it did. -/
def fnExactIsStackOpUptoRow : OpenClaim := { program := "ytbdkcainnbccoaa", sum := "1c5bd6b7cee0141c438c49c5a4989a5ca2816d12d35c8a32d338ced9e43ff438", func := "loop.example/g00987/laws.FnExactIsStackOp", spec := "fnExactIsStackOp", apart := false, narrowed := true }
def FnExactIsStackOpUptoSaid : Prop := fnExactIsStackOpUptoRow.holds Try.pinned (OpenSpec.upto fnExactIsStackOpSpec)

/-- 'laws.FnExactClamp', WHERE WHAT IT READS IS OF BULK AT MOST 1048576: true; the input reads as it did. -/
def fnExactClampUptoRow : OpenClaim := { program := "ytbdkcainnbccoaa", sum := "1c5bd6b7cee0141c438c49c5a4989a5ca2816d12d35c8a32d338ced9e43ff438", func := "loop.example/g00987/laws.FnExactClamp", spec := "fnExactClamp", apart := false, narrowed := true }
def FnExactClampUptoSaid : Prop := fnExactClampUptoRow.holds Try.pinned (OpenSpec.upto fnExactClampSpec)

/-- 'laws.FnExactIdentity', WHERE WHAT IT READS IS OF BULK AT MOST 1048576: true; the input reads as it did. -/
def fnExactIdentityUptoRow : OpenClaim := { program := "ytbdkcainnbccoaa", sum := "1c5bd6b7cee0141c438c49c5a4989a5ca2816d12d35c8a32d338ced9e43ff438", func := "loop.example/g00987/laws.FnExactIdentity", spec := "fnExactIdentity", apart := false, narrowed := true }
def FnExactIdentityUptoSaid : Prop := fnExactIdentityUptoRow.holds Try.pinned (OpenSpec.upto fnExactIdentitySpec)

/-- 'laws.FnExactBoxOk', WHERE WHAT IT READS IS OF BULK AT MOST 1048576: true; the input reads as it did. -/
def fnExactBoxOkUptoRow : OpenClaim := { program := "ytbdkcainnbccoaa", sum := "1c5bd6b7cee0141c438c49c5a4989a5ca2816d12d35c8a32d338ced9e43ff438", func := "loop.example/g00987/laws.FnExactBoxOk", spec := "fnExactBoxOk", apart := false, narrowed := true }
def FnExactBoxOkUptoSaid : Prop := fnExactBoxOkUptoRow.holds Try.pinned (OpenSpec.upto fnExactBoxOkSpec)

/-- 'laws.FnExactTurnOk', WHERE WHAT IT READS IS OF BULK AT MOST 1048576: true; the input reads as it did. -/
def fnExactTurnOkUptoRow : OpenClaim := { program := "ytbdkcainnbccoaa", sum := "1c5bd6b7cee0141c438c49c5a4989a5ca2816d12d35c8a32d338ced9e43ff438", func := "loop.example/g00987/laws.FnExactTurnOk", spec := "fnExactTurnOk", apart := false, narrowed := true }
def FnExactTurnOkUptoSaid : Prop := fnExactTurnOkUptoRow.holds Try.pinned (OpenSpec.upto fnExactTurnOkSpec)

/-- 'laws.FnExactIsName', WHERE WHAT IT READS IS OF BULK AT MOST 1048576: true; the input reads as it did. -/
def fnExactIsNameUptoRow : OpenClaim := { program := "ytbdkcainnbccoaa", sum := "1c5bd6b7cee0141c438c49c5a4989a5ca2816d12d35c8a32d338ced9e43ff438", func := "loop.example/g00987/laws.FnExactIsName", spec := "fnExactIsName", apart := false, narrowed := true }
def FnExactIsNameUptoSaid : Prop := fnExactIsNameUptoRow.holds Try.pinned (OpenSpec.upto fnExactIsNameSpec)

/-- 'laws.FnExactInBox', WHERE WHAT IT READS IS OF BULK AT MOST 1048576: true; the input reads as it did. -/
def fnExactInBoxUptoRow : OpenClaim := { program := "ytbdkcainnbccoaa", sum := "1c5bd6b7cee0141c438c49c5a4989a5ca2816d12d35c8a32d338ced9e43ff438", func := "loop.example/g00987/laws.FnExactInBox", spec := "fnExactInBox", apart := false, narrowed := true }
def FnExactInBoxUptoSaid : Prop := fnExactInBoxUptoRow.holds Try.pinned (OpenSpec.upto fnExactInBoxSpec)

/-- 'laws.FnExactCountDots', WHERE WHAT IT READS IS OF BULK AT MOST 1048576: true; the input reads as it did. -/
def fnExactCountDotsUptoRow : OpenClaim := { program := "ytbdkcainnbccoaa", sum := "1c5bd6b7cee0141c438c49c5a4989a5ca2816d12d35c8a32d338ced9e43ff438", func := "loop.example/g00987/laws.FnExactCountDots", spec := "fnExactCountDots", apart := false, narrowed := true }
def FnExactCountDotsUptoSaid : Prop := fnExactCountDotsUptoRow.holds Try.pinned (OpenSpec.upto fnExactCountDotsSpec)

/-- 'laws.FnExactStackOk', WHERE WHAT IT READS IS OF BULK AT MOST 1048576: true; the input reads as it did. -/
def fnExactStackOkUptoRow : OpenClaim := { program := "ytbdkcainnbccoaa", sum := "1c5bd6b7cee0141c438c49c5a4989a5ca2816d12d35c8a32d338ced9e43ff438", func := "loop.example/g00987/laws.FnExactStackOk", spec := "fnExactStackOk", apart := false, narrowed := true }
def FnExactStackOkUptoSaid : Prop := fnExactStackOkUptoRow.holds Try.pinned (OpenSpec.upto fnExactStackOkSpec)

/-- 'laws.FnExactTokenOk', WHERE WHAT IT READS IS OF BULK AT MOST 1048576: true; the input reads as it did. -/
def fnExactTokenOkUptoRow : OpenClaim := { program := "ytbdkcainnbccoaa", sum := "1c5bd6b7cee0141c438c49c5a4989a5ca2816d12d35c8a32d338ced9e43ff438", func := "loop.example/g00987/laws.FnExactTokenOk", spec := "fnExactTokenOk", apart := false, narrowed := true }
def FnExactTokenOkUptoSaid : Prop := fnExactTokenOkUptoRow.holds Try.pinned (OpenSpec.upto fnExactTokenOkSpec)

end Rows
end Go.Proofs.Ytbdkcainnbccoaa
