-- Written for this claim by the session's own program (drive.py), over the kit's print, with contracts typed by hand.
import Derived.Test.YtcdbjnbdfbiaaaaProg
import Derived.Below
import Derived.Deep.Draws
import Derived.Deep.AppendLies
import Derived.Maps.AppendAt
import Derived.OwnWalk
import Derived.Laws.BytesArg
import Derived.Laws.MakeOwn
import Derived.Laws.OwnMore
import Derived.Deep.OwnRows
import Derived.Tactics
import Derived.Lib.ConvBytes
import Derived.Laws.Slices
import Derived.WalkKit
import Derived.KernelRfl
import Derived.RowKit3
import Derived.Deep.LoopGhost
import Derived.Deep.QuietTactic
import Derived.BigQuiet
import Derived.WideLaws
import Derived.Deep.DeepCutAuto
import Derived.Deep.CutBlock
import Derived.Deep.RegionHeld3
import Derived.Laws.Rows
import Derived.Lib.AppendStr
import Derived.ArgAppend
import Derived.Laws.IdiomCopy
import Derived.OrdersHeld
import Derived.Laws.BitsLemmas
import Derived.RowKit
import Derived.Test.YtcdbjnbdfbiaaaaWWords
import Derived.Test.YtcdbjnbdfbiaaaaWLast
import Derived.Test.YtcdbjnbdfbiaaaaWTab
import Derived.Test.YtcdbjnbdfbiaaaaWFour
import Derived.Test.YtcdbjnbdfbiaaaaWQPut
import Derived.Test.YtcdbjnbdfbiaaaaWApart
import Derived.Test.YtcdbjnbdfbiaaaaWArr
import Derived.Test.YtcdbjnbdfbiaaaaWZeros
import Derived.Test.YtcdbjnbdfbiaaaaWFoot
import Derived.Test.YtcdbjnbdfbiaaaaWKept
import Derived.Test.YtcdbjnbdfbiaaaaWShare
import Derived.Test.YtcdbjnbdfbiaaaaWN
import Derived.Test.YtcdbjnbdfbiaaaaWFootNe
import Derived.Test.YtcdbjnbdfbiaaaaWAt
import Derived.Test.YtcdbjnbdfbiaaaaWEqStruct
import Derived.Test.YtcdbjnbdfbiaaaaWRepsOne
import Derived.Test.YtcdbjnbdfbiaaaaWInv
import Derived.Test.YtcdbjnbdfbiaaaaWInvWords
import Derived.Test.YtcdbjnbdfbiaaaaWGuard
import Derived.Test.YtcdbjnbdfbiaaaaWNEv
import Derived.Test.YtcdbjnbdfbiaaaaWMore
namespace Go.Proofs.Ytcdbjnbdfbiaaaa.PFnExactSlowSize
open Go.RowKit Go.Proofs.YtcdbjnbdfbiaaaaW.PrintWords Go.Proofs.YtcdbjnbdfbiaaaaW.PrintLast Go.Proofs.YtcdbjnbdfbiaaaaW.PrintMore
attribute [local go_sem] max2_int min2_int max_two min_two max_three min_three max_four min_four   -- for this text's walks alone
set_option linter.unusedVariables false
set_option linter.unusedSimpArgs false



def errW : Option Int → Value
  | none => .nilIface
  | some c => .iface 0 (.int .i64 c)
theorem errW_none : errW none = .nilIface := rfl
theorem errW_some (c : Int) : errW (some c) = .iface 0 (.int .i64 c) := rfl

-- the values' own types

end Go.Proofs.Ytcdbjnbdfbiaaaa.PFnExactSlowSize
