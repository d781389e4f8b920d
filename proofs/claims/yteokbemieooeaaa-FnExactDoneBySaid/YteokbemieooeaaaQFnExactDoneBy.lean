-- Written for this claim by the session's own program (drive.py).
import Derived.Test.YteokbemieooeaaaRFnExactDoneBy
import Derived.Test.YteokbemieooeaaaPFnExactDoneByx0
import Derived.Test.YteokbemieooeaaaOpen
namespace Go.Proofs.Yteokbemieooeaaa.PFnExactDoneBy
open Go.RowKit Go.ChangeShapes Go.WideShapes Go.Proofs.YteokbemieooeaaaW.PrintWords Go.Proofs.YteokbemieooeaaaW.PrintLast Go.Proofs.Yteokbemieooeaaa.Opens
set_option linter.unusedVariables false
/-- The law, of plain values. -/
def laws_FnExactDoneBy.Good : Prop := ∀ (l0 : List (List Int)) (l1 : List Int), (l0.length ≤ maxLen ∧ ∀ x_ ∈ l0, x_.length ≤ maxLen ∧ ∀ xx_ ∈ x_, (Lit.int .i64 xx_).wf = true) → (l1.length ≤ maxLen ∧ ∀ x_ ∈ l1, (Lit.int .i64 x_).wf = true) → ∃ k, laws_FnExactDoneBy.Pass k l0 l1
end Go.Proofs.Yteokbemieooeaaa.PFnExactDoneBy
