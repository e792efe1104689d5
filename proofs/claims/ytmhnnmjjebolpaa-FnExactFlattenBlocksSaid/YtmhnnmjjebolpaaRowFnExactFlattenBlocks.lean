/- The program's FlattenBlocks returns what the reference's returns, for all arguments. This is its row: for every input the law returns true and its arguments read as before.
   Conditions: none. -/
import Derived.Test.YtmhnnmjjebolpaaRows
import Derived.Test.YtmhnnmjjebolpaaGFnExactFlattenBlocksx7
import Derived.Test.YtmhnnmjjebolpaaPureFnExactFlattenBlocks
import Derived.WalkKit
import Derived.ProofKit
import Derived.OpenShut
import Derived.ShutString
import Derived.ChangeOld
import Derived.Below
import Derived.SizedLaws
import Derived.Carry
import Derived.Lib.SmallJoins
import Derived.Test.YtmhnnmjjebolpaaSlices
namespace Go.Proofs.Ytmhnnmjjebolpaa.fnExactFlattenBlocks
open Go.Joins Go.ChangeShapes Go.WideShapes Go.ChangeAt Go.RowKit Go.Deep
open Go.ChangeMaps (open_string shut_string)
set_option linter.unusedVariables false
set_option linter.unusedSimpArgs false
theorem own : ownKnob Try.prog.godebug = none := by kernel_rfl
theorem laidOut : laidOutB Try.prog = true := by kernel_rfl
set_option maxRecDepth 100000 in
theorem lifted (os : Os) (started : os.Started) (H : Type) (enc : TypeId × Value → H) :
    ReturnsInHanded {} Try.checked os 10 .any (Rows.fnExactFlattenBlocksSpec.pre6 enc Try.prog Try.f10 Rows.fnExactFlattenBlocksRow.domain false) (Rows.fnExactFlattenBlocksSpec.post enc Try.prog Try.f10 false true false false) := by
  refine returnsInHanded_of_change_sized (C := Try.checked) own started (by kernel_rfl) Try.func10
    (ChangeSpec.witness6 (enc := enc) (C := Try.checked) false ⟨#[], #[.slice none 0 0], []⟩ 8 (by kernel_rfl) (by kernel_rfl) (by kernel_rfl) (by kernel_rfl)) ?_
  intro W base args ds gs before hval0 hW hcnd hsz0 _
  have hsz : (DataW.weightsEach Try.prog (Try.f10.params.toList ++ Rows.fnExactFlattenBlocksSpec.plain.varTypes Try.prog) (ds ++ gs)).all (· ≤ reachBytes) = true := hsz0
  have hval : ∀ (j : Nat) t v, Try.f10.params[j]? = some t → args[j]? = some v → Value.okWide Try.prog W .any base t v := hval0
  have hW' := hW
  obtain ⟨p, q, hA0, hV, rfl, hfz, hnd⟩ := hW
  have hA : DataW.TrodAll enc Try.prog W 0 (fun _ => true) true Try.f10.params.toList args.toList ds p := hA0
  rw [Try.params10] at hA hval hsz
  obtain ⟨v0, vs0, d0, ds0, p0, q0, hargs, rfl, rfl, h0, r0⟩ := trodAll_cons hA
  obtain ⟨rfl, rfl, rfl⟩ := trodAll_nil r0
  obtain rfl : args = #[v0] := by cases args; simp_all
  obtain ⟨rfl, rfl⟩ := trodVars_none hV
  have k0 := h0
  have lt0 : ∀ x ∈ p0, x.block < W.heap.size := by obtain ⟨m, hm⟩ := k0; exact DataW.trod_lt m _ _ _ hm
  obtain ⟨a0, len0, cap0, rfl⟩ := okWide_slice Try.underlying33 (hval 0 33 v0 rfl rfl)
  obtain ⟨hlc0, hcm0, hrow0⟩ := RowSlices.open_row2 Try.underlying33 Try.underlying77 (by kernel_rfl) (by kernel_rfl) h0
  have hbig0 : len0 ≤ 9223372036854775807 := Nat.le_trans hlc0 hcm0
  obtain ⟨l0, rfl, hr0, hw0⟩ := RowSlices.rows_of (d := GFnExactFlattenBlocks.k77) (a := a0) hbig0 (fun x => x.f0.size ≤ maxLen ∧ (Lit.int .i64 x.f1).wf = true) (fun i hi => by
    obtain ⟨ad, ea, v0, v1, n, y0, y1, c0, c1, t0, t1⟩ := hrow0 i hi
    obtain ⟨b0, e0, _, g0⟩ := DataW.trod_string Try.underlying9 t0
    obtain rfl : v0 = .string b0 := by simpa using e0
    obtain ⟨b1, e1, _, g1⟩ := DataW.trod_int Try.underlying3 t1
    obtain rfl : v1 = .int .i64 b1 := by simpa using e1
    exact ⟨ad, ea, ⟨b0, b1⟩, [.string b0, .int .i64 b1], rfl, GFnExactFlattenBlocks.k77_mk W ⟨b0, b1⟩, ⟨g0, g1⟩, fun j u hj => by
      match j, hj with
      | 0, hj => obtain rfl := Option.some.inj hj; exact c0
      | 1, hj => obtain rfl := Option.some.inj hj; exact c1
      | j + 2, hj => simp at hj⟩)
  clear hA0 hval0 hsz0 hsz
  obtain ⟨k, hk⟩ := Pure.FnExactFlattenBlocks l0 hbig0 hw0
  refine (GFnExactFlattenBlocks.laws_FnExactFlattenBlocks.calls k _ _ l0 true W hr0 hlc0 hk).mono fun e W' ⟨he, bel0⟩ => ?_
  have bel : Below W.heap.size W W' := bel0
  subst he
  exact ⟨_, rfl, _, _, _, [], _, [], hW', trodAll_mk1 (shut_bool Try.underlying4 _), (trodAll_cons_mk (Below.trod laidOut (by kernel_rfl) (of_decide_eq_true (by kernel_rfl)) k0 bel lt0) trodAll_mk0), rfl, bel.frame _, fun h => by cases h⟩
theorem over : Rows.fnExactFlattenBlocksRow.holds Try.pinned (OpenSpec.ofChange Rows.fnExactFlattenBlocksSpec) :=
  OpenClaim.holds_of_wide 10 Try.f10 rfl rfl rfl rfl rfl rfl rfl ⟨rfl, rfl, rfl, rfl, rfl⟩ rfl rfl rfl rfl rfl (by kernel_rfl) Try.func10 (by kernel_rfl)
    (of_decide_eq_true (by kernel_rfl)) (by unfold Func.isWrapper; first | (rw [if_pos (by decide +kernel)]; kernel_rfl) | (rw [if_neg (by decide +kernel)]; exact ⟨rfl, rfl⟩))
    (fun os started H enc _ => lifted os started H enc)
theorem proved : Rows.FnExactFlattenBlocksSaid := over
end Go.Proofs.Ytmhnnmjjebolpaa.fnExactFlattenBlocks
namespace Go.Proofs.Ytmhnnmjjebolpaa
/-- The row, under a short name, for the claim. -/
theorem fnExactFlattenBlocks_holds : Rows.FnExactFlattenBlocksSaid := fnExactFlattenBlocks.proved
#print axioms fnExactFlattenBlocks_holds
end Go.Proofs.Ytmhnnmjjebolpaa
