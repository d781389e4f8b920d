-- Written for this claim by the session's own program (drive.py).
import Derived.Test.YtfhhjfhogepfpaaPFnSizesx4
import Derived.Test.YtfhhjfhogepfpaaPFnSizesx0
import Derived.Test.YtfhhjfhogepfpaaOpen
namespace Go.Proofs.Ytfhhjfhogepfpaa.PFnSizes
open Go.RowKit Go.ChangeShapes Go.WideShapes Go.Proofs.YtfhhjfhogepfpaaW.PrintWords Go.Proofs.YtfhhjfhogepfpaaW.PrintLast Go.Proofs.Ytfhhjfhogepfpaa.Opens
set_option linter.unusedVariables false
/-- The law, of plain values. -/
def laws_FnSizes.Good : Prop := ∀ (l0 : List Int) (l1 : List Int), (l0.length ≤ maxLen ∧ ∀ x_ ∈ l0, (Lit.int .u8 x_).wf = true) → (l1.length ≤ maxLen ∧ ∀ x_ ∈ l1, (Lit.int .u8 x_).wf = true) → ∃ k, laws_FnSizes.f k l0 l1 = some true
end Go.Proofs.Ytfhhjfhogepfpaa.PFnSizes
