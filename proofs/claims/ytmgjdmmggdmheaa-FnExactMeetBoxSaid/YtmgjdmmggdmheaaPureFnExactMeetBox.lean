/- The program's MeetBox returns what the reference's returns, for all arguments. This is its pure statement, over numbers and lists, as printed from the program; the row is built on it.
   Conditions: none. -/
import Derived.Test.YtmgjdmmggdmheaaPFnExactMeetBoxx2
namespace Go.Proofs.Ytmgjdmmggdmheaa.Pure
set_option linter.unusedSimpArgs false
set_option linter.unusedVariables false
open Go.RowKit Go.Proofs.Ytmgjdmmggdmheaa.PFnExactMeetBox Go.Proofs.YtmgjdmmggdmheaaW.PrintWords Go.Proofs.YtmgjdmmggdmheaaW.PrintLast

theorem spec_in (a b c : Int) : spec_l01In.f a b c = some (decide (b ≤ a ∧ a ≤ c)) := by
  unfold spec_l01In.f
  by_cases h : b ≤ a <;> simp [h]
theorem impl_in (a b c : Int) : impl_within.f a b c = some (decide (b ≤ a ∧ a ≤ c)) := by
  unfold impl_within.f
  by_cases h : b ≤ a <;> simp [h]
def inB (a b c : Int) : Bool := decide (b ≤ a ∧ a ≤ c)
theorem spec_coord (a : Int) : spec_l02In.f a = some (decide (-200 ≤ a ∧ a ≤ 200)) := by
  simp only [spec_l02In.f, spec_in, Option.bind_some]
theorem impl_coord (a : Int) : impl_coordOk.f a = some (decide (-200 ≤ a ∧ a ≤ 200)) := by
  simp only [impl_coordOk.f, impl_in, Option.bind_some]
theorem box_same (a b c d : Int) : impl_BoxOk.f a b c d = spec_BoxOk.f a b c d := by
  simp only [impl_BoxOk.f, spec_BoxOk.f, spec_coord, impl_coord]
def boxB (a b c d : Int) : Bool := decide ((-200 ≤ a ∧ a ≤ 200) ∧ (-200 ≤ b ∧ b ≤ 200) ∧ (-200 ≤ c ∧ c ≤ 200) ∧ (-200 ≤ d ∧ d ≤ 200) ∧ a ≤ c ∧ b ≤ d)
theorem spec_box (a b c d : Int) : spec_BoxOk.f a b c d = some (boxB a b c d) := by
  simp only [spec_BoxOk.f, spec_coord, Option.bind_some, decide_eq_true_eq, boxB]
  repeat' split
  all_goals congr 1
  all_goals first | (symm; exact decide_eq_false (by omega)) | exact decide_eq_decide.2 (by omega)
theorem impl_box (a b c d : Int) : impl_BoxOk.f a b c d = some (boxB a b c d) := by rw [box_same, spec_box]
def meetM (a b c d p q r s : Int) : Int × Int × Int × Int :=
  if boxB a b c d = true then if boxB p q r s = true then if mx a p ≥ mn c r then (0, 0, 0, 0) else if mx b q ≥ mn d s then (0, 0, 0, 0) else (mx a p, mx b q, mn c r, mn d s) else (0, 0, 0, 0) else (0, 0, 0, 0)
theorem spec_meet (a b c d p q r s : Int) : spec_MeetBox.f a b c d p q r s = some (meetM a b c d p q r s) := by
  simp only [spec_MeetBox.f, spec_box, Option.bind_some, meetM]
  repeat' split
  all_goals rfl
theorem impl_meet (a b c d p q r s : Int) : Ev (fun k => impl_MeetBox.f k a b c d p q r s) (meetM a b c d p q r s) := by
  simp only [impl_MeetBox.f, impl_box, Option.bind_some, meetM]
  have j (t : Bool) : Ev (fun k => impl_MeetBox.j0 k t a b c d p q r s) (if t = true then (0, 0, 0, 0) else if mx a p ≥ mn c r then (0, 0, 0, 0) else if mx b q ≥ mn d s then (0, 0, 0, 0) else (mx a p, mx b q, mn c r, mn d s)) := by
    refine Ev.step (fun k => impl_MeetBox.j0.eq_2 _ _ _ _ _ _ _ _ _ k) ?_
    refine Ev.congr (fun k => ?_) (Ev.now _)
    repeat' split
    all_goals rfl
  cases h1 : boxB a b c d with
  | false =>
    simp only [Bool.false_eq_true, if_false]
    exact j true
  | true =>
    simp only [if_true]
    cases h2 : boxB p q r s with
    | false =>
      simp only [Bool.not_false, Bool.false_eq_true, if_false]
      exact j true
    | true =>
      simp only [Bool.not_true, if_true]
      exact j false
theorem FnExactMeetBox (a b c d p q r s : Int) (_ : (Lit.int .i64 a).wf = true) (_ : (Lit.int .i64 b).wf = true) (_ : (Lit.int .i64 c).wf = true) (_ : (Lit.int .i64 d).wf = true)
    (_ : (Lit.int .i64 p).wf = true) (_ : (Lit.int .i64 q).wf = true) (_ : (Lit.int .i64 r).wf = true) (_ : (Lit.int .i64 s).wf = true) : ∃ k, laws_FnExactMeetBox.f k a b c d p q r s = some true := by
  refine Ev.rounds ?_
  simp only [laws_FnExactMeetBox.f, laws_toBox.f, Option.bind_some, spec_meet]
  refine Ev.bind (impl_meet a b c d p q r s) ?_
  simp only [laws_eqBox.f, if_true, Option.bind_some]
  exact Ev.now _

end Go.Proofs.Ytmgjdmmggdmheaa.Pure
