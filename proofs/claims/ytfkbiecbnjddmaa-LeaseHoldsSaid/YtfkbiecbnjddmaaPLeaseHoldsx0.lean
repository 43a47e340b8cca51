/- Written by a program of the session (pg.py) out of the translation, over contracts that were proved by hand. -/
import Derived.Test.YtfkbiecbnjddmaaProg
import Derived.Below
import Derived.Deep.Draws
import Derived.Deep.AppendLies
import Derived.Maps.AppendAt
import Derived.OwnWalk
import Derived.Laws.BytesArg
import Derived.Laws.MakeOwn
import Derived.Laws.OwnMore
import Derived.Deep.OwnRows
import Derived.Tactics
import Derived.Lib.ConvBytes
import Derived.Laws.Slices
import Derived.WalkKit
import Derived.KernelRfl
import Derived.RowKit3
import Derived.Deep.LoopGhost
import Derived.Deep.QuietTactic
import Derived.BigQuiet
import Derived.WideLaws
import Derived.Deep.DeepCutAuto
import Derived.Deep.CutBlock
import Derived.Deep.RegionHeld3
import Derived.Laws.Rows
import Derived.Lib.AppendStr
import Derived.ArgAppend
import Derived.Laws.IdiomCopy
import Derived.OrdersHeld
import Derived.Laws.BitsLemmas
import Derived.RowKit
import Derived.Test.YtfkbiecbnjddmaaLSweep
import Derived.Test.YtfkbiecbnjddmaaLGiven
import Derived.Test.YtfkbiecbnjddmaaWWords
import Derived.Test.YtfkbiecbnjddmaaWLast
import Derived.Test.YtfkbiecbnjddmaaWTab
import Derived.Test.YtfkbiecbnjddmaaWFour
import Derived.Test.YtfkbiecbnjddmaaWQPut
import Derived.Test.YtfkbiecbnjddmaaWApart
import Derived.Test.YtfkbiecbnjddmaaWArr
import Derived.Test.YtfkbiecbnjddmaaWZeros
import Derived.Test.YtfkbiecbnjddmaaWFoot
import Derived.Test.YtfkbiecbnjddmaaWKept
import Derived.Test.YtfkbiecbnjddmaaWShare
import Derived.Test.YtfkbiecbnjddmaaWN
import Derived.Test.YtfkbiecbnjddmaaWFootNe
import Derived.Test.YtfkbiecbnjddmaaWAt
import Derived.Test.YtfkbiecbnjddmaaWEqStruct
import Derived.Test.YtfkbiecbnjddmaaWRepsOne
import Derived.Test.YtfkbiecbnjddmaaWInv
import Derived.Test.YtfkbiecbnjddmaaWInvWords
import Derived.Test.YtfkbiecbnjddmaaWGuard
import Derived.Test.YtfkbiecbnjddmaaWNEv
import Derived.Test.YtfkbiecbnjddmaaWMore
namespace Go.Proofs.Ytfkbiecbnjddmaa.PLeaseHolds
open Go.RowKit Go.Proofs.YtfkbiecbnjddmaaW.PrintWords Go.Proofs.YtfkbiecbnjddmaaW.PrintLast Go.Proofs.YtfkbiecbnjddmaaW.PrintMore
attribute [local go_sem] max2_int min2_int max_two min_two max_three min_three max_four min_four   -- for this text's walks alone
set_option linter.unusedVariables false
set_option linter.unusedSimpArgs false



def errW : Option Int → Value
  | none => .nilIface
  | some c => .iface 0 (.int .i64 c)
theorem errW_none : errW none = .nilIface := rfl
theorem errW_some (c : Int) : errW (some c) = .iface 0 (.int .i64 c) := rfl

theorem info34 : (Try.prog.info? 34).map (fun i => (i.zero, i.size, i.bytes)) = some (some (.agg #[(.bool false), (.int .u32 0), (.string ⟨#[]⟩), (.int .i64 0), (.int .i64 0), (.int .i64 0), (.int .u64 0)]), 7, 56) := by kernel_rfl
-- the values' own types

end Go.Proofs.Ytfkbiecbnjddmaa.PLeaseHolds
