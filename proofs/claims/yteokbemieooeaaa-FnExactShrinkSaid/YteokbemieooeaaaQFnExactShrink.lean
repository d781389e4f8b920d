-- Written for this claim by the session's own program (drive.py).
import Derived.Test.YteokbemieooeaaaRFnExactShrink
import Derived.Test.YteokbemieooeaaaPFnExactShrinkx0
import Derived.Test.YteokbemieooeaaaOpen
namespace Go.Proofs.Yteokbemieooeaaa.PFnExactShrink
open Go.RowKit Go.ChangeShapes Go.WideShapes Go.Proofs.YteokbemieooeaaaW.PrintWords Go.Proofs.YteokbemieooeaaaW.PrintLast Go.Proofs.Yteokbemieooeaaa.Opens
set_option linter.unusedVariables false
/-- The law, of plain values. -/
def laws_FnExactShrink.Good : Prop := ∀ (l0 : List (List Int)), (l0.length ≤ maxLen ∧ ∀ x_ ∈ l0, x_.length ≤ maxLen ∧ ∀ xx_ ∈ x_, (Lit.int .i64 xx_).wf = true) → ∃ k, laws_FnExactShrink.Pass k l0
end Go.Proofs.Yteokbemieooeaaa.PFnExactShrink
