-- The print's words, those alone that this law names (trim.py).
import Derived.Deep.Slices
import Derived.ChangeArms
import Derived.WideShapes
import Derived.Test.YtcihgepinnajjaaDoorVWWords
import Derived.Test.YtcihgepinnajjaaDoorVWMore
namespace Go.Proofs.YtcihgepinnajjaaDoor.Opens
open Go.RowKit Go.Deep Go.ChangeShapes Go.WideShapes Go.Proofs.YtcihgepinnajjaaDoorW.PrintWords
def Opens {α : Type} (P : Program) (t : TypeId) (d : Kd α) (G : α → Prop) : Prop :=
  ∀ (H : Type) (enc : TypeId × Value → H) (w : World) (fuel : Nat) (cs : List Value) (x : DataW H × List MemPlace), DataW.trod enc P w 0 (fun _ => true) true fuel t cs = some x → ∃ y, d.K w y cs ∧ G y
variable {P : Program} {t e : TypeId} {α : Type}
theorem calls_eq {P : Program} {f : FuncId} {xs_ ys_ : Array Value} {W : World} {Q : Ending → World → Prop} (h : xs_ = ys_) (hc : Calls P f xs_ W Q) : Calls P f ys_ W Q := h ▸ hc
end Go.Proofs.YtcihgepinnajjaaDoor.Opens
