-- Written by xprint.py (this session's program).
import Derived.Test.YtfeekkcgmnkofaaProg
import Derived.Below
import Derived.Deep.Draws
import Derived.Deep.AppendLies
import Derived.Maps.AppendAt
import Derived.OwnWalk
import Derived.Laws.BytesArg
import Derived.Laws.MakeOwn
import Derived.Laws.OwnMore
import Derived.Deep.OwnRows
import Derived.Tactics
import Derived.Lib.ConvBytes
import Derived.Laws.Slices
import Derived.WalkKit
import Derived.KernelRfl
import Derived.RowKit3
import Derived.Deep.LoopGhost
import Derived.Deep.QuietTactic
import Derived.BigQuiet
import Derived.WideLaws
import Derived.Deep.DeepCutAuto
import Derived.Deep.CutBlock
import Derived.Deep.RegionHeld3
import Derived.Laws.Rows
import Derived.Lib.AppendStr
import Derived.ArgAppend
import Derived.Laws.IdiomCopy
import Derived.OrdersHeld
import Derived.Laws.BitsLemmas
import Derived.RowKit
import Derived.Test.YtfeekkcgmnkofaaWWords
import Derived.Test.YtfeekkcgmnkofaaWLast
import Derived.Test.YtfeekkcgmnkofaaWTab
import Derived.Test.YtfeekkcgmnkofaaWFour
import Derived.Test.YtfeekkcgmnkofaaWQPut
import Derived.Test.YtfeekkcgmnkofaaWApart
import Derived.Test.YtfeekkcgmnkofaaWArr
import Derived.Test.YtfeekkcgmnkofaaWZeros
import Derived.Test.YtfeekkcgmnkofaaWFoot
import Derived.Test.YtfeekkcgmnkofaaWKept
import Derived.Test.YtfeekkcgmnkofaaWShare
import Derived.Test.YtfeekkcgmnkofaaWN
import Derived.Test.YtfeekkcgmnkofaaWFootNe
import Derived.Test.YtfeekkcgmnkofaaWAt
import Derived.Test.YtfeekkcgmnkofaaWEqStruct
import Derived.Test.YtfeekkcgmnkofaaWRepsOne
import Derived.Test.YtfeekkcgmnkofaaWInv
import Derived.Test.YtfeekkcgmnkofaaWInvWords
import Derived.Test.YtfeekkcgmnkofaaWGuard
import Derived.Test.YtfeekkcgmnkofaaWNEv
import Derived.Test.YtfeekkcgmnkofaaWMore
import Derived.Test.YtfeekkcgmnkofaaXWords
import Derived.Test.YtfeekkcgmnkofaaXOpen
namespace Go.Proofs.Ytfeekkcgmnkofaa.XRateNames
open Go.RowKit Go.Proofs.YtfeekkcgmnkofaaW.PrintWords Go.Proofs.YtfeekkcgmnkofaaW.PrintLast Go.Proofs.YtfeekkcgmnkofaaW.PrintMore Go.Proofs.Ytfeekkcgmnkofaa.XWords Go.Proofs.Ytfeekkcgmnkofaa.XOpen
attribute [local go_sem] max2_int min2_int max_two min_two max_three min_three max_four min_four   -- for this text's walks alone
set_option linter.unusedVariables false
set_option linter.unusedSimpArgs false



def errW : Option Int → Value
  | none => .nilIface
  | some c => .iface 0 (.int .i64 c)
theorem errW_none : errW none = .nilIface := rfl
theorem errW_some (c : Int) : errW (some c) = .iface 0 (.int .i64 c) := rfl

-- the values' own types

end Go.Proofs.Ytfeekkcgmnkofaa.XRateNames
