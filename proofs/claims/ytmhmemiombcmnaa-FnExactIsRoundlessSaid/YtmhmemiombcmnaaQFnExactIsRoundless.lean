-- Written for this claim by the session's own program (drive.py).
import Derived.Test.YtmhmemiombcmnaaPFnExactIsRoundlessx5
import Derived.Test.YtmhmemiombcmnaaPFnExactIsRoundlessx0
import Derived.Test.YtmhmemiombcmnaaOpen
namespace Go.Proofs.Ytmhmemiombcmnaa.PFnExactIsRoundless
open Go.RowKit Go.ChangeShapes Go.WideShapes Go.Proofs.YtmhmemiombcmnaaW.PrintWords Go.Proofs.YtmhmemiombcmnaaW.PrintLast Go.Proofs.Ytmhmemiombcmnaa.Opens
set_option linter.unusedVariables false
/-- The law, of plain values. -/
def laws_FnExactIsRoundless.Good : Prop := ∀ (l0 : List (List Int)), (l0.length ≤ maxLen ∧ ∀ x_ ∈ l0, x_.length ≤ maxLen ∧ ∀ xx_ ∈ x_, (Lit.int .i64 xx_).wf = true) → ∃ k, laws_FnExactIsRoundless.f k l0 = some true
end Go.Proofs.Ytmhmemiombcmnaa.PFnExactIsRoundless
