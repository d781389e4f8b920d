-- Written for this claim by the session's own program (drive.py).
import Derived.Test.YtcdbjnbdfbiaaaaPFnExactLeastCommonx2
import Derived.Test.YtcdbjnbdfbiaaaaPFnExactLeastCommonx0
import Derived.Test.YtcdbjnbdfbiaaaaOpen
namespace Go.Proofs.Ytcdbjnbdfbiaaaa.PFnExactLeastCommon
open Go.RowKit Go.ChangeShapes Go.WideShapes Go.Proofs.YtcdbjnbdfbiaaaaW.PrintWords Go.Proofs.YtcdbjnbdfbiaaaaW.PrintLast Go.Proofs.Ytcdbjnbdfbiaaaa.Opens
set_option linter.unusedVariables false
/-- The law, of plain values. -/
def laws_FnExactLeastCommon.Good : Prop := ∀ (a0 : Int) (l1 : List Int), (Lit.int .i64 a0).wf = true → (l1.length ≤ maxLen ∧ ∀ x_ ∈ l1, (Lit.int .i64 x_).wf = true) → ∃ k, laws_FnExactLeastCommon.f k a0 l1 = some true
end Go.Proofs.Ytcdbjnbdfbiaaaa.PFnExactLeastCommon
