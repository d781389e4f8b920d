-- Written for this claim by the session's own program (drive.py).
import Derived.Test.YtcdbjnbdfbiaaaaPFnExactFastSizex1
import Derived.Test.YtcdbjnbdfbiaaaaPFnExactFastSizex0
import Derived.Test.YtcdbjnbdfbiaaaaOpen
namespace Go.Proofs.Ytcdbjnbdfbiaaaa.PFnExactFastSize
open Go.RowKit Go.ChangeShapes Go.WideShapes Go.Proofs.YtcdbjnbdfbiaaaaW.PrintWords Go.Proofs.YtcdbjnbdfbiaaaaW.PrintLast Go.Proofs.Ytcdbjnbdfbiaaaa.Opens
set_option linter.unusedVariables false
/-- The law, of plain values. -/
def laws_FnExactFastSize.Good : Prop := ∀ (a0 : Int), (Lit.int .i64 a0).wf = true → laws_FnExactFastSize.f a0 = some true
end Go.Proofs.Ytcdbjnbdfbiaaaa.PFnExactFastSize
