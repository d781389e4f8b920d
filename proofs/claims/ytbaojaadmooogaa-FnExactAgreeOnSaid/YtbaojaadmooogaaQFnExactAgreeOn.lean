-- Written for this claim by the session's own program (drive.py).
import Derived.Test.YtbaojaadmooogaaPFnExactAgreeOnx4
import Derived.Test.YtbaojaadmooogaaPFnExactAgreeOnx0
import Derived.Test.YtbaojaadmooogaaOpen
namespace Go.Proofs.Ytbaojaadmooogaa.PFnExactAgreeOn
open Go.RowKit Go.ChangeShapes Go.WideShapes Go.Proofs.YtbaojaadmooogaaW.PrintWords Go.Proofs.YtbaojaadmooogaaW.PrintLast Go.Proofs.Ytbaojaadmooogaa.Opens
set_option linter.unusedVariables false
/-- The law, of plain values. -/
def laws_FnExactAgreeOn.Good : Prop := ∀ (l0 : List Int) (l1 : List Int) (l2 : List Int), (l0.length ≤ maxLen ∧ ∀ x_ ∈ l0, (Lit.int .i64 x_).wf = true) → (l1.length ≤ maxLen ∧ ∀ x_ ∈ l1, (Lit.int .i64 x_).wf = true) → (l2.length ≤ maxLen ∧ ∀ x_ ∈ l2, (Lit.int .i64 x_).wf = true) → ∃ k, laws_FnExactAgreeOn.f k l0 l1 l2 = some true
end Go.Proofs.Ytbaojaadmooogaa.PFnExactAgreeOn
