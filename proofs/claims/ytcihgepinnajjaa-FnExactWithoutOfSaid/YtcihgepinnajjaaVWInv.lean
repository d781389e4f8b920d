-- The print's words, those alone that this law names (trim.py).
import Derived.Test.YtcihgepinnajjaaVWTab
namespace Go.Proofs.YtcihgepinnajjaaW.PrintLast
def up (b : Nat → Bool) (i : Nat) : Nat → Bool := fun j => if j = i then true else b j
end Go.Proofs.YtcihgepinnajjaaW.PrintLast
