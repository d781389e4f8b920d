-- Written for this claim by the session's own program (drive.py).
import Derived.Test.YteokbemieooeaaaRFnExactGroupsOf
import Derived.Test.YteokbemieooeaaaPFnExactGroupsOfx0
import Derived.Test.YteokbemieooeaaaOpen
namespace Go.Proofs.Yteokbemieooeaaa.PFnExactGroupsOf
open Go.RowKit Go.ChangeShapes Go.WideShapes Go.Proofs.YteokbemieooeaaaW.PrintWords Go.Proofs.YteokbemieooeaaaW.PrintLast Go.Proofs.Yteokbemieooeaaa.Opens
set_option linter.unusedVariables false
/-- The law, of plain values. -/
def laws_FnExactGroupsOf.Good : Prop := ∀ (l0 : List (List Int)), (l0.length ≤ maxLen ∧ ∀ x_ ∈ l0, x_.length ≤ maxLen ∧ ∀ xx_ ∈ x_, (Lit.int .i64 xx_).wf = true) → ∃ k, laws_FnExactGroupsOf.Pass k l0
end Go.Proofs.Yteokbemieooeaaa.PFnExactGroupsOf
