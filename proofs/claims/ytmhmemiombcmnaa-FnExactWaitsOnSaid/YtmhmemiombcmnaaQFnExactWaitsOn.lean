-- Written for this claim by the session's own program (drive.py).
import Derived.Test.YtmhmemiombcmnaaRFnExactWaitsOn
import Derived.Test.YtmhmemiombcmnaaPFnExactWaitsOnx0
import Derived.Test.YtmhmemiombcmnaaOpen
namespace Go.Proofs.Ytmhmemiombcmnaa.PFnExactWaitsOn
open Go.RowKit Go.ChangeShapes Go.WideShapes Go.Proofs.YtmhmemiombcmnaaW.PrintWords Go.Proofs.YtmhmemiombcmnaaW.PrintLast Go.Proofs.Ytmhmemiombcmnaa.Opens
set_option linter.unusedVariables false
/-- The law, of plain values. -/
def laws_FnExactWaitsOn.Good : Prop := ∀ (l0 : List (List Int)) (l1 : List Int) (a2 : Int), (l0.length ≤ maxLen ∧ ∀ x_ ∈ l0, x_.length ≤ maxLen ∧ ∀ xx_ ∈ x_, (Lit.int .i64 xx_).wf = true) → (l1.length ≤ maxLen ∧ ∀ x_ ∈ l1, (Lit.int .i64 x_).wf = true) → (Lit.int .i64 a2).wf = true → ∃ k, laws_FnExactWaitsOn.Pass k l0 l1 a2
end Go.Proofs.Ytmhmemiombcmnaa.PFnExactWaitsOn
