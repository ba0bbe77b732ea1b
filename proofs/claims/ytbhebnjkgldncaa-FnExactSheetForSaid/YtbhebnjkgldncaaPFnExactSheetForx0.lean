-- PRINTED BY print.sh 35421559b90ae4d0a3588c463048766b98c2df88dd9212a6774a882060cdf62d: not written by this session
import Derived.Test.YtbhebnjkgldncaaProg
import Derived.Below
import Derived.Deep.Draws
import Derived.Deep.AppendLies
import Derived.Maps.AppendAt
import Derived.OwnWalk
import Derived.Laws.BytesArg
import Derived.Laws.MakeOwn
import Derived.Laws.OwnMore
import Derived.Deep.OwnRows
import Derived.Tactics
import Derived.Lib.ConvBytes
import Derived.Laws.Slices
import Derived.WalkKit
import Derived.KernelRfl
import Derived.RowKit3
import Derived.Deep.LoopGhost
import Derived.Deep.QuietTactic
import Derived.BigQuiet
import Derived.WideLaws
import Derived.Deep.DeepCutAuto
import Derived.Deep.CutBlock
import Derived.Deep.RegionHeld3
import Derived.Laws.Rows
import Derived.Lib.AppendStr
import Derived.ArgAppend
import Derived.Laws.IdiomCopy
import Derived.OrdersHeld
import Derived.Laws.BitsLemmas
import Derived.RowKit
import Derived.Test.YtbhebnjkgldncaaWWords
import Derived.Test.YtbhebnjkgldncaaWLast
import Derived.Test.YtbhebnjkgldncaaWTab
import Derived.Test.YtbhebnjkgldncaaWFour
import Derived.Test.YtbhebnjkgldncaaWQPut
import Derived.Test.YtbhebnjkgldncaaWApart
import Derived.Test.YtbhebnjkgldncaaWArr
import Derived.Test.YtbhebnjkgldncaaWZeros
import Derived.Test.YtbhebnjkgldncaaWFoot
import Derived.Test.YtbhebnjkgldncaaWKept
import Derived.Test.YtbhebnjkgldncaaWShare
import Derived.Test.YtbhebnjkgldncaaWN
import Derived.Test.YtbhebnjkgldncaaWFootNe
import Derived.Test.YtbhebnjkgldncaaWAt
import Derived.Test.YtbhebnjkgldncaaWEqStruct
import Derived.Test.YtbhebnjkgldncaaWRepsOne
import Derived.Test.YtbhebnjkgldncaaWInv
import Derived.Test.YtbhebnjkgldncaaWInvWords
import Derived.Test.YtbhebnjkgldncaaWGuard
import Derived.Test.YtbhebnjkgldncaaWNEv
import Derived.Test.YtbhebnjkgldncaaWMore
namespace Go.Proofs.Ytbhebnjkgldncaa.PFnExactSheetFor
open Go.RowKit Go.Proofs.YtbhebnjkgldncaaW.PrintWords Go.Proofs.YtbhebnjkgldncaaW.PrintLast Go.Proofs.YtbhebnjkgldncaaW.PrintMore
attribute [local go_sem] max2_int min2_int max_two min_two max_three min_three max_four min_four   -- for this text's walks alone
set_option linter.unusedVariables false
set_option linter.unusedSimpArgs false



def errW : Option Int → Value
  | none => .nilIface
  | some c => .iface 0 (.int .i64 c)
theorem errW_none : errW none = .nilIface := rfl
theorem errW_some (c : Int) : errW (some c) = .iface 0 (.int .i64 c) := rfl

-- the values' own types

end Go.Proofs.Ytbhebnjkgldncaa.PFnExactSheetFor
