/- The program's NewPage returns what the reference's returns, for all arguments. This is its pure statement, over numbers and lists, as printed from the program; the row is built on it.
   Conditions: none. -/
import Derived.Test.YtbfeaekgbgfcjaaGFnExactNewPagex5
namespace Go.Proofs.Ytbfeaekgbgfcjaa.Pure
set_option linter.unusedSimpArgs false
set_option linter.unusedVariables false
open Go.RowKit Go.Proofs.Ytbfeaekgbgfcjaa.GFnExactNewPage Go.Proofs.YtbfeaekgbgfcjaaW.PrintWords Go.Proofs.YtbfeaekgbgfcjaaW.PrintLast

theorem FnExactNewPage : laws_FnExactNewPage.Pure := ⟨10, by kernel_rfl⟩

end Go.Proofs.Ytbfeaekgbgfcjaa.Pure
