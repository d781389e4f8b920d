-- Written for this claim by the session's own program (drive.py).
import Derived.Test.YtmhmemiombcmnaaRFnExactGroupAt
import Derived.Test.YtmhmemiombcmnaaPFnExactGroupAtx0
import Derived.Test.YtmhmemiombcmnaaOpen
namespace Go.Proofs.Ytmhmemiombcmnaa.PFnExactGroupAt
open Go.RowKit Go.ChangeShapes Go.WideShapes Go.Proofs.YtmhmemiombcmnaaW.PrintWords Go.Proofs.YtmhmemiombcmnaaW.PrintLast Go.Proofs.Ytmhmemiombcmnaa.Opens
set_option linter.unusedVariables false
/-- The law, of plain values. -/
def laws_FnExactGroupAt.Good : Prop := ∀ (l0 : List (List Int)) (a1 : Int), (l0.length ≤ maxLen ∧ ∀ x_ ∈ l0, x_.length ≤ maxLen ∧ ∀ xx_ ∈ x_, (Lit.int .i64 xx_).wf = true) → (Lit.int .i64 a1).wf = true → ∃ k, laws_FnExactGroupAt.Pass k l0 a1
end Go.Proofs.Ytmhmemiombcmnaa.PFnExactGroupAt
