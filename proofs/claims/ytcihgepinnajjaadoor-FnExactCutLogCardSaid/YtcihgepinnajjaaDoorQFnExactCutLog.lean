-- Written for this claim by the session's own program (drive.py).
import Derived.Test.YtcihgepinnajjaaDoorRFnExactCutLog
import Derived.Test.YtcihgepinnajjaaDoorPFnExactCutLogx0
import Derived.Test.YtcihgepinnajjaaDoorVOpen
namespace Go.Proofs.YtcihgepinnajjaaDoor.PFnExactCutLog
open Go.RowKit Go.ChangeShapes Go.WideShapes Go.Proofs.YtcihgepinnajjaaDoorW.PrintWords Go.Proofs.YtcihgepinnajjaaDoorW.PrintLast Go.Proofs.YtcihgepinnajjaaDoor.Opens
set_option linter.unusedVariables false
/-- The law, of plain values. -/
def laws_FnExactCutLog.Good : Prop := ∀ (a0 : ByteArray) (a1 : Int), a0.size ≤ maxLen → (Lit.int .i64 a1).wf = true → ∃ k, laws_FnExactCutLog.Pass k a0 a1
end Go.Proofs.YtcihgepinnajjaaDoor.PFnExactCutLog
