/- Written by a program of the session (pg.py) out of the translation, over contracts that were proved by hand. -/
import Derived.Test.YtjlcigdhhkfdiaaProg
import Derived.Below
import Derived.Deep.Draws
import Derived.Deep.AppendLies
import Derived.Maps.AppendAt
import Derived.OwnWalk
import Derived.Laws.BytesArg
import Derived.Laws.MakeOwn
import Derived.Laws.OwnMore
import Derived.Deep.OwnRows
import Derived.Tactics
import Derived.Lib.ConvBytes
import Derived.Laws.Slices
import Derived.WalkKit
import Derived.KernelRfl
import Derived.RowKit3
import Derived.Deep.LoopGhost
import Derived.Deep.QuietTactic
import Derived.BigQuiet
import Derived.WideLaws
import Derived.Deep.DeepCutAuto
import Derived.Deep.CutBlock
import Derived.Deep.RegionHeld3
import Derived.Laws.Rows
import Derived.Lib.AppendStr
import Derived.ArgAppend
import Derived.Laws.IdiomCopy
import Derived.OrdersHeld
import Derived.Laws.BitsLemmas
import Derived.RowKit
import Derived.Test.YtjlcigdhhkfdiaaWWords
import Derived.Test.YtjlcigdhhkfdiaaWLast
import Derived.Test.YtjlcigdhhkfdiaaWTab
import Derived.Test.YtjlcigdhhkfdiaaWFour
import Derived.Test.YtjlcigdhhkfdiaaWQPut
import Derived.Test.YtjlcigdhhkfdiaaWApart
import Derived.Test.YtjlcigdhhkfdiaaWArr
import Derived.Test.YtjlcigdhhkfdiaaWZeros
import Derived.Test.YtjlcigdhhkfdiaaWFoot
import Derived.Test.YtjlcigdhhkfdiaaWKept
import Derived.Test.YtjlcigdhhkfdiaaWShare
import Derived.Test.YtjlcigdhhkfdiaaWN
import Derived.Test.YtjlcigdhhkfdiaaWFootNe
import Derived.Test.YtjlcigdhhkfdiaaWAt
import Derived.Test.YtjlcigdhhkfdiaaWEqStruct
import Derived.Test.YtjlcigdhhkfdiaaWRepsOne
import Derived.Test.YtjlcigdhhkfdiaaWInv
import Derived.Test.YtjlcigdhhkfdiaaWInvWords
import Derived.Test.YtjlcigdhhkfdiaaWGuard
import Derived.Test.YtjlcigdhhkfdiaaWNEv
import Derived.Test.YtjlcigdhhkfdiaaWMore
namespace Go.Proofs.Ytjlcigdhhkfdiaa
open Go.RowKit Go.Proofs.YtjlcigdhhkfdiaaW.PrintWords Go.Proofs.YtjlcigdhhkfdiaaW.PrintLast Go.Proofs.YtjlcigdhhkfdiaaW.PrintMore
attribute [local go_sem] max2_int min2_int max_two min_two max_three min_three max_four min_four   -- for this text's walks alone
set_option linter.unusedVariables false
set_option linter.unusedSimpArgs false



def errW : Option Int → Value
  | none => .nilIface
  | some c => .iface 0 (.int .i64 c)
theorem errW_none : errW none = .nilIface := rfl
theorem errW_some (c : Int) : errW (some c) = .iface 0 (.int .i64 c) := rfl

-- the values' own types

end Go.Proofs.Ytjlcigdhhkfdiaa
