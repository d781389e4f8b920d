-- Written for this claim by the session's own program (drive.py).
import Derived.Test.YtmhmemiombcmnaaRFnExactReadyOf
import Derived.Test.YtmhmemiombcmnaaPFnExactReadyOfx0
import Derived.Test.YtmhmemiombcmnaaOpen
namespace Go.Proofs.Ytmhmemiombcmnaa.PFnExactReadyOf
open Go.RowKit Go.ChangeShapes Go.WideShapes Go.Proofs.YtmhmemiombcmnaaW.PrintWords Go.Proofs.YtmhmemiombcmnaaW.PrintLast Go.Proofs.Ytmhmemiombcmnaa.Opens
set_option linter.unusedVariables false
/-- The law, of plain values. -/
def laws_FnExactReadyOf.Good : Prop := ∀ (l0 : List (List Int)) (l1 : List Int), (l0.length ≤ maxLen ∧ ∀ x_ ∈ l0, x_.length ≤ maxLen ∧ ∀ xx_ ∈ x_, (Lit.int .i64 xx_).wf = true) → (l1.length ≤ maxLen ∧ ∀ x_ ∈ l1, (Lit.int .i64 x_).wf = true) → ∃ k, laws_FnExactReadyOf.Pass k l0 l1
end Go.Proofs.Ytmhmemiombcmnaa.PFnExactReadyOf
