-- Written for this claim by the session's own program (drive.py).
import Derived.Test.YtcihgepinnajjaaDoorRFnExactReadLog
import Derived.Test.YtcihgepinnajjaaDoorPFnExactReadLogx0
import Derived.Test.YtcihgepinnajjaaDoorVOpen
namespace Go.Proofs.YtcihgepinnajjaaDoor.PFnExactReadLog
open Go.RowKit Go.ChangeShapes Go.WideShapes Go.Proofs.YtcihgepinnajjaaDoorW.PrintWords Go.Proofs.YtcihgepinnajjaaDoorW.PrintLast Go.Proofs.YtcihgepinnajjaaDoor.Opens
set_option linter.unusedVariables false
/-- The law, of plain values. -/
def laws_FnExactReadLog.Good : Prop := ∀ (a0 : ByteArray), a0.size ≤ maxLen → ∃ k, laws_FnExactReadLog.Pass k a0
end Go.Proofs.YtcihgepinnajjaaDoor.PFnExactReadLog
