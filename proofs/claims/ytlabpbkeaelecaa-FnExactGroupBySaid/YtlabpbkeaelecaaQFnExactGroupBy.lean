-- Written for this claim by the session's own program (drive.py).
import Derived.Test.YtlabpbkeaelecaaPFnExactGroupByx3
import Derived.Test.YtlabpbkeaelecaaPFnExactGroupByx0
import Derived.Test.YtlabpbkeaelecaaOpen
namespace Go.Proofs.Ytlabpbkeaelecaa.PFnExactGroupBy
open Go.RowKit Go.ChangeShapes Go.WideShapes Go.Proofs.YtlabpbkeaelecaaW.PrintWords Go.Proofs.YtlabpbkeaelecaaW.PrintLast Go.Proofs.Ytlabpbkeaelecaa.Opens
set_option linter.unusedVariables false
/-- The law, of plain values. -/
def laws_FnExactGroupBy.Good : Prop := ∀ (a0 : Int) (a1 : Int) (a2 : Int), (Lit.int .i64 a0).wf = true → (Lit.int .i64 a1).wf = true → (Lit.int .i64 a2).wf = true → ∃ k, laws_FnExactGroupBy.f k a0 a1 a2 = some true
end Go.Proofs.Ytlabpbkeaelecaa.PFnExactGroupBy
