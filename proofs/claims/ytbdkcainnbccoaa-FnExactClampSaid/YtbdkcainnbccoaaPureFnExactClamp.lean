/- The program's Clamp returns what the reference's returns, for all arguments. This is its pure statement, over numbers and lists, as printed from the program; the row is built on it.
   Conditions: none. -/
import Derived.Test.YtbdkcainnbccoaaPFnExactClampx1
namespace Go.Proofs.Ytbdkcainnbccoaa.Pure
set_option linter.unusedSimpArgs false
set_option linter.unusedVariables false
open Go.RowKit Go.Proofs.Ytbdkcainnbccoaa.PFnExactClamp Go.Proofs.YtbdkcainnbccoaaW.PrintWords Go.Proofs.YtbdkcainnbccoaaW.PrintLast

def clampI (n a b : Int) : Int := if b < a then a else if n < a then a else if n > b then b else n
theorem spec_clamp (n a b : Int) : Ev (fun k => spec_Clamp.f k n a b) (clampI n a b) := by
  unfold spec_Clamp.f clampI
  have j (t : Bool) : Ev (fun k => spec_Clamp.j0 k n a b t) (if t = true then a else if n > b then b else n) := by
    refine Ev.step (fun k => spec_Clamp.j0.eq_2 _ _ _ _ k) ?_
    cases t
    · simp only [Bool.false_eq_true, if_false]
      by_cases h : n > b
      · simp only [if_pos h]
        exact Ev.now _
      · simp only [if_neg h]
        exact Ev.now _
    · simp only [if_true]
      exact Ev.now _
  by_cases h : b < a
  · simp only [if_pos h]
    exact j true
  · simp only [if_neg h]
    have := j (decide (n < a))
    simpa using this
theorem impl_clamp (n a b : Int) : impl_Clamp.f n a b = some (clampI n a b) := by
  unfold impl_Clamp.f clampI mn
  repeat' split
  all_goals first | rfl | (exfalso; omega) | (congr 1; omega)
theorem FnExactClamp : laws_FnExactClamp.Pure := by
  intro n a b _ _ _
  refine Ev.rounds ?_
  simp only [laws_FnExactClamp.f, impl_clamp, Option.bind_some]
  refine Ev.bind (spec_clamp n a b) ?_
  simp only [if_true]
  exact Ev.now _

end Go.Proofs.Ytbdkcainnbccoaa.Pure
