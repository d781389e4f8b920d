-- Written for this claim by the session's own program (drive.py).
import Derived.Test.YtlabpbkeaelecaaPFnExactMeetAllx4
import Derived.Test.YtlabpbkeaelecaaPFnExactMeetAllx0
import Derived.Test.YtlabpbkeaelecaaOpen
namespace Go.Proofs.Ytlabpbkeaelecaa.PFnExactMeetAll
open Go.RowKit Go.ChangeShapes Go.WideShapes Go.Proofs.YtlabpbkeaelecaaW.PrintWords Go.Proofs.YtlabpbkeaelecaaW.PrintLast Go.Proofs.Ytlabpbkeaelecaa.Opens
set_option linter.unusedVariables false
/-- The law, of plain values. -/
def laws_FnExactMeetAll.Good : Prop := ∀ (a0 : Int) (l1 : List (List Int)), (Lit.int .i64 a0).wf = true → (l1.length ≤ maxLen ∧ ∀ x_ ∈ l1, x_.length ≤ maxLen ∧ ∀ xx_ ∈ x_, (Lit.int .i64 xx_).wf = true) → ∃ k, laws_FnExactMeetAll.f k a0 l1 = some true
end Go.Proofs.Ytlabpbkeaelecaa.PFnExactMeetAll
