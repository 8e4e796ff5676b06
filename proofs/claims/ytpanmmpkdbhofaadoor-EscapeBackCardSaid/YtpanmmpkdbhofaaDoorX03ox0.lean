-- Written by this claim's own program (xprint.py). Not trusted: Lean checks it.
import Derived.Test.YtpanmmpkdbhofaaDoorProg
import Derived.Below
import Derived.Deep.Draws
import Derived.Deep.AppendLies
import Derived.Maps.AppendAt
import Derived.OwnWalk
import Derived.Laws.BytesArg
import Derived.Laws.MakeOwn
import Derived.Laws.OwnMore
import Derived.Deep.OwnRows
import Derived.Tactics
import Derived.Lib.ConvBytes
import Derived.Laws.Slices
import Derived.WalkKit
import Derived.KernelRfl
import Derived.RowKit3
import Derived.Deep.LoopGhost
import Derived.Deep.QuietTactic
import Derived.BigQuiet
import Derived.WideLaws
import Derived.Deep.DeepCutAuto
import Derived.Deep.CutBlock
import Derived.Deep.RegionHeld3
import Derived.Laws.Rows
import Derived.Lib.AppendStr
import Derived.ArgAppend
import Derived.Laws.IdiomCopy
import Derived.OrdersHeld
import Derived.Laws.BitsLemmas
import Derived.RowKit
import Derived.Test.YtpanmmpkdbhofaaDoorXWords
import Derived.Test.YtpanmmpkdbhofaaDoorE5
import Derived.WalkLawsBesides
import Derived.Test.YtpanmmpkdbhofaaDoorWWords
import Derived.Test.YtpanmmpkdbhofaaDoorWLast
import Derived.Test.YtpanmmpkdbhofaaDoorWTab
import Derived.Test.YtpanmmpkdbhofaaDoorWFour
import Derived.Test.YtpanmmpkdbhofaaDoorWQPut
import Derived.Test.YtpanmmpkdbhofaaDoorWApart
import Derived.Test.YtpanmmpkdbhofaaDoorWArr
import Derived.Test.YtpanmmpkdbhofaaDoorWZeros
import Derived.Test.YtpanmmpkdbhofaaDoorWFoot
import Derived.Test.YtpanmmpkdbhofaaDoorWKept
import Derived.Test.YtpanmmpkdbhofaaDoorWShare
import Derived.Test.YtpanmmpkdbhofaaDoorWN
import Derived.Test.YtpanmmpkdbhofaaDoorWFootNe
import Derived.Test.YtpanmmpkdbhofaaDoorWAt
import Derived.Test.YtpanmmpkdbhofaaDoorWEqStruct
import Derived.Test.YtpanmmpkdbhofaaDoorWRepsOne
import Derived.Test.YtpanmmpkdbhofaaDoorWInv
import Derived.Test.YtpanmmpkdbhofaaDoorWInvWords
import Derived.Test.YtpanmmpkdbhofaaDoorWGuard
import Derived.Test.YtpanmmpkdbhofaaDoorWNEv
import Derived.Test.YtpanmmpkdbhofaaDoorWMore
namespace Go.Proofs.YtpanmmpkdbhofaaDoor.P03o
open Go.RowKit Go.Proofs.YtpanmmpkdbhofaaDoorE Go.Proofs.YtpanmmpkdbhofaaDoorW.PrintWords Go.Proofs.YtpanmmpkdbhofaaDoorW.PrintLast Go.Proofs.YtpanmmpkdbhofaaDoorW.PrintMore
attribute [local go_sem] max2_int min2_int max_two min_two max_three min_three max_four min_four   -- for this text's walks alone
set_option linter.unusedVariables false
set_option linter.unusedSimpArgs false



def errW : Option Int → Value
  | none => .nilIface
  | some c => .iface 0 (.int .i64 c)
theorem errW_none : errW none = .nilIface := rfl
theorem errW_some (c : Int) : errW (some c) = .iface 0 (.int .i64 c) := rfl

-- the values' own types

end Go.Proofs.YtpanmmpkdbhofaaDoor.P03o
