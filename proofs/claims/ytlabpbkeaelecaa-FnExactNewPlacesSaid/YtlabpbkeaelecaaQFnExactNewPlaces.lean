-- Written for this claim by the session's own program (drive.py).
import Derived.Test.YtlabpbkeaelecaaPFnExactNewPlacesx2
import Derived.Test.YtlabpbkeaelecaaPFnExactNewPlacesx0
import Derived.Test.YtlabpbkeaelecaaOpen
namespace Go.Proofs.Ytlabpbkeaelecaa.PFnExactNewPlaces
open Go.RowKit Go.ChangeShapes Go.WideShapes Go.Proofs.YtlabpbkeaelecaaW.PrintWords Go.Proofs.YtlabpbkeaelecaaW.PrintLast Go.Proofs.Ytlabpbkeaelecaa.Opens
set_option linter.unusedVariables false
/-- The law, of plain values. -/
def laws_FnExactNewPlaces.Good : Prop := ∀ (a0 : Int), (Lit.int .i64 a0).wf = true → ∃ k, laws_FnExactNewPlaces.f k a0 = some true
end Go.Proofs.Ytlabpbkeaelecaa.PFnExactNewPlaces
