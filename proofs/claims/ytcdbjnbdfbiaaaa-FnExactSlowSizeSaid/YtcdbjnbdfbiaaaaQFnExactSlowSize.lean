-- Written for this claim by the session's own program (drive.py).
import Derived.Test.YtcdbjnbdfbiaaaaPFnExactSlowSizex1
import Derived.Test.YtcdbjnbdfbiaaaaPFnExactSlowSizex0
import Derived.Test.YtcdbjnbdfbiaaaaOpen
namespace Go.Proofs.Ytcdbjnbdfbiaaaa.PFnExactSlowSize
open Go.RowKit Go.ChangeShapes Go.WideShapes Go.Proofs.YtcdbjnbdfbiaaaaW.PrintWords Go.Proofs.YtcdbjnbdfbiaaaaW.PrintLast Go.Proofs.Ytcdbjnbdfbiaaaa.Opens
set_option linter.unusedVariables false
/-- The law, of plain values. -/
def laws_FnExactSlowSize.Good : Prop := ∀ (a0 : Int), (Lit.int .i64 a0).wf = true → laws_FnExactSlowSize.f a0 = some true
end Go.Proofs.Ytcdbjnbdfbiaaaa.PFnExactSlowSize
