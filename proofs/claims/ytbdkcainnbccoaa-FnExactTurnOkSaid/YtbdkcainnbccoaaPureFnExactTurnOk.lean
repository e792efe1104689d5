/- The program's TurnOk returns what the reference's returns, for all arguments. This is its pure statement, over numbers and lists, as printed from the program; the row is built on it.
   Conditions: none. -/
import Derived.Test.YtbdkcainnbccoaaPFnExactTurnOkx1
namespace Go.Proofs.Ytbdkcainnbccoaa.Pure
set_option linter.unusedSimpArgs false
set_option linter.unusedVariables false
open Go.RowKit Go.Proofs.Ytbdkcainnbccoaa.PFnExactTurnOk Go.Proofs.YtbdkcainnbccoaaW.PrintWords Go.Proofs.YtbdkcainnbccoaaW.PrintLast

theorem spec_in (a b c : Int) : spec_l01In.f a b c = some (decide (b ≤ a ∧ a ≤ c)) := by
  unfold spec_l01In.f
  by_cases h : b ≤ a <;> simp [h]
theorem impl_in (a b c : Int) : impl_within.f a b c = some (decide (b ≤ a ∧ a ≤ c)) := by
  unfold impl_within.f
  by_cases h : b ≤ a <;> simp [h]
def inB (a b c : Int) : Bool := decide (b ≤ a ∧ a ≤ c)
theorem spec_coord (a : Int) : spec_l02In.f a = some (decide (-200 ≤ a ∧ a ≤ 200)) := by
  simp only [spec_l02In.f, spec_in, Option.bind_some]
theorem impl_coord (a : Int) : impl_coordOk.f a = some (decide (-200 ≤ a ∧ a ≤ 200)) := by
  simp only [impl_coordOk.f, impl_in, Option.bind_some]
theorem FnExactTurnOk (a b c d : Int) (_ : (Lit.int .i64 a).wf = true) (_ : (Lit.int .i64 b).wf = true) (_ : (Lit.int .i64 c).wf = true) (_ : (Lit.int .i64 d).wf = true) : laws_FnExactTurnOk.f a b c d = some true := by
  have h : impl_TurnOk.f a b c d = spec_TurnOk.f a b c d := by
    simp only [impl_TurnOk.f, spec_TurnOk.f, spec_coord, impl_coord, spec_in, impl_in]
  have ht : ∃ r, spec_TurnOk.f a b c d = some r := by
    simp only [spec_TurnOk.f, spec_coord, spec_in, Option.bind_some]
    repeat' split
    all_goals exact ⟨_, rfl⟩
  obtain ⟨r, hr⟩ := ht
  simp only [laws_FnExactTurnOk.f, laws_toTurn.f, Option.bind_some, h, hr, bne_self_eq_false, Bool.false_eq_true, if_false]

end Go.Proofs.Ytbdkcainnbccoaa.Pure
