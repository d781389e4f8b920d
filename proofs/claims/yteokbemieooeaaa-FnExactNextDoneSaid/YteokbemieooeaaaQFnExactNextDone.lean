-- Written for this claim by the session's own program (drive.py).
import Derived.Test.YteokbemieooeaaaRFnExactNextDone
import Derived.Test.YteokbemieooeaaaPFnExactNextDonex0
import Derived.Test.YteokbemieooeaaaOpen
namespace Go.Proofs.Yteokbemieooeaaa.PFnExactNextDone
open Go.RowKit Go.ChangeShapes Go.WideShapes Go.Proofs.YteokbemieooeaaaW.PrintWords Go.Proofs.YteokbemieooeaaaW.PrintLast Go.Proofs.Yteokbemieooeaaa.Opens
set_option linter.unusedVariables false
/-- The law, of plain values. -/
def laws_FnExactNextDone.Good : Prop := ∀ (l0 : List (List Int)) (l1 : List Int) (l2 : List Int), (l0.length ≤ maxLen ∧ ∀ x_ ∈ l0, x_.length ≤ maxLen ∧ ∀ xx_ ∈ x_, (Lit.int .i64 xx_).wf = true) → (l1.length ≤ maxLen ∧ ∀ x_ ∈ l1, (Lit.int .i64 x_).wf = true) → (l2.length ≤ maxLen ∧ ∀ x_ ∈ l2, (Lit.int .i64 x_).wf = true) → ∃ k, laws_FnExactNextDone.Pass k l0 l1 l2
end Go.Proofs.Yteokbemieooeaaa.PFnExactNextDone
