/- The program's Identity returns what the reference's returns, for all arguments. This is its pure statement, over numbers and lists, as printed from the program; the row is built on it.
   Conditions: none. -/
import Derived.Test.YtbdkcainnbccoaaPFnExactIdentityx1
namespace Go.Proofs.Ytbdkcainnbccoaa.Pure
set_option linter.unusedSimpArgs false
set_option linter.unusedVariables false
open Go.RowKit Go.Proofs.Ytbdkcainnbccoaa.PFnExactIdentity Go.Proofs.YtbdkcainnbccoaaW.PrintWords Go.Proofs.YtbdkcainnbccoaaW.PrintLast

theorem FnExactIdentity : laws_FnExactIdentity.Pure := rfl

end Go.Proofs.Ytbdkcainnbccoaa.Pure
