/- The program's IsStackOp returns what the reference's returns, for all arguments. This is its pure statement, over numbers and lists, as printed from the program; the row is built on it.
   Conditions: none. -/
import Derived.Test.YtbdkcainnbccoaaPFnExactIsStackOpx1
namespace Go.Proofs.Ytbdkcainnbccoaa.Pure
set_option linter.unusedSimpArgs false
set_option linter.unusedVariables false
open Go.RowKit Go.Proofs.Ytbdkcainnbccoaa.PFnExactIsStackOp Go.Proofs.YtbdkcainnbccoaaW.PrintWords Go.Proofs.YtbdkcainnbccoaaW.PrintLast

theorem FnExactIsStackOp : laws_FnExactIsStackOp.Pure := by
  intro s hs
  unfold laws_FnExactIsStackOp.f
  by_cases hb : (s.size : Int) > 1048576
  · rw [if_pos hb]
  · rw [if_neg hb]
    have h : impl_IsStackOp.f s = spec_IsStackOp.f s := rfl
    rw [h]
    have ht : ∃ b, spec_IsStackOp.f s = some b := by
      unfold spec_IsStackOp.f
      repeat' split
      all_goals exact ⟨_, rfl⟩
    obtain ⟨b, hb⟩ := ht
    rw [hb]
    simp

end Go.Proofs.Ytbdkcainnbccoaa.Pure
