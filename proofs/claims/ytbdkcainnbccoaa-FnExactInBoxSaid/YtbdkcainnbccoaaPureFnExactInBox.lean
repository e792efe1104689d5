/- The program's InBox returns what the reference's returns, for all arguments. This is its pure statement, over numbers and lists, as printed from the program; the row is built on it.
   Conditions: none. -/
import Derived.Test.YtbdkcainnbccoaaPFnExactInBoxx1
namespace Go.Proofs.Ytbdkcainnbccoaa.Pure
set_option linter.unusedSimpArgs false
set_option linter.unusedVariables false
open Go.RowKit Go.Proofs.Ytbdkcainnbccoaa.PFnExactInBox Go.Proofs.YtbdkcainnbccoaaW.PrintWords Go.Proofs.YtbdkcainnbccoaaW.PrintLast

theorem spec_in (a b c : Int) : spec_l01In.f a b c = some (decide (b ≤ a ∧ a ≤ c)) := by
  unfold spec_l01In.f
  by_cases h : b ≤ a <;> simp [h]
theorem impl_in (a b c : Int) : impl_within.f a b c = some (decide (b ≤ a ∧ a ≤ c)) := by
  unfold impl_within.f
  by_cases h : b ≤ a <;> simp [h]
def inB (a b c : Int) : Bool := decide (b ≤ a ∧ a ≤ c)
theorem spec_coord (a : Int) : spec_l02In.f a = some (decide (-200 ≤ a ∧ a ≤ 200)) := by
  simp only [spec_l02In.f, spec_in, Option.bind_some]
theorem impl_coord (a : Int) : impl_coordOk.f a = some (decide (-200 ≤ a ∧ a ≤ 200)) := by
  simp only [impl_coordOk.f, impl_in, Option.bind_some]
theorem box_same (a b c d : Int) : impl_BoxOk.f a b c d = spec_BoxOk.f a b c d := by
  simp only [impl_BoxOk.f, spec_BoxOk.f, spec_coord, impl_coord]
def boxB (a b c d : Int) : Bool := decide ((-200 ≤ a ∧ a ≤ 200) ∧ (-200 ≤ b ∧ b ≤ 200) ∧ (-200 ≤ c ∧ c ≤ 200) ∧ (-200 ≤ d ∧ d ≤ 200) ∧ a ≤ c ∧ b ≤ d)
theorem spec_box (a b c d : Int) : spec_BoxOk.f a b c d = some (boxB a b c d) := by
  simp only [spec_BoxOk.f, spec_coord, Option.bind_some, decide_eq_true_eq, boxB]
  repeat' split
  all_goals congr 1
  all_goals first | (symm; exact decide_eq_false (by omega)) | exact decide_eq_decide.2 (by omega)
theorem impl_box (a b c d : Int) : impl_BoxOk.f a b c d = some (boxB a b c d) := by rw [box_same, spec_box]
theorem FnExactInBox (a b c d x y : Int) (_ : (Lit.int .i64 a).wf = true) (_ : (Lit.int .i64 b).wf = true) (_ : (Lit.int .i64 c).wf = true) (_ : (Lit.int .i64 d).wf = true) (_ : (Lit.int .i64 x).wf = true) (_ : (Lit.int .i64 y).wf = true) : laws_FnExactInBox.f a b c d x y = some true := by
  have h : impl_InBox.f a b c d x y = spec_InBox.f a b c d x y := by
    simp only [impl_InBox.f, spec_InBox.f, box_same]
  have ht : ∃ r, spec_InBox.f a b c d x y = some r := by
    simp only [spec_InBox.f, spec_box, Option.bind_some]
    repeat' split
    all_goals exact ⟨_, rfl⟩
  obtain ⟨r, hr⟩ := ht
  simp only [laws_FnExactInBox.f, laws_toBox.f, Option.bind_some, h, hr, bne_self_eq_false, Bool.false_eq_true, if_false]

end Go.Proofs.Ytbdkcainnbccoaa.Pure
