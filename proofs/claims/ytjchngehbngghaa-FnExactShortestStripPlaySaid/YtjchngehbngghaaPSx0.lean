-- WRITTEN BY A PROGRAM OF THIS SESSION (printplus.py) over the kit's print of the translation; Lean checks it.
import Derived.Test.YtjchngehbngghaaProg
import Derived.Below
import Derived.Deep.Draws
import Derived.Deep.AppendLies
import Derived.Maps.AppendAt
import Derived.OwnWalk
import Derived.Laws.BytesArg
import Derived.Laws.MakeOwn
import Derived.Laws.OwnMore
import Derived.Deep.OwnRows
import Derived.Tactics
import Derived.Lib.ConvBytes
import Derived.Laws.Slices
import Derived.WalkKit
import Derived.KernelRfl
import Derived.RowKit3
import Derived.Deep.LoopGhost
import Derived.Deep.QuietTactic
import Derived.BigQuiet
import Derived.WideLaws
import Derived.Deep.DeepCutAuto
import Derived.Deep.CutBlock
import Derived.Deep.RegionHeld3
import Derived.Laws.Rows
import Derived.Lib.AppendStr
import Derived.ArgAppend
import Derived.Laws.IdiomCopy
import Derived.OrdersHeld
import Derived.Laws.BitsLemmas
import Derived.RowKit
import Derived.Test.YtjchngehbngghaaWWords
import Derived.Test.YtjchngehbngghaaWLast
import Derived.Test.YtjchngehbngghaaWTab
import Derived.Test.YtjchngehbngghaaWFour
import Derived.Test.YtjchngehbngghaaWQPut
import Derived.Test.YtjchngehbngghaaWApart
import Derived.Test.YtjchngehbngghaaWArr
import Derived.Test.YtjchngehbngghaaWZeros
import Derived.Test.YtjchngehbngghaaWFoot
import Derived.Test.YtjchngehbngghaaWKept
import Derived.Test.YtjchngehbngghaaWShare
import Derived.Test.YtjchngehbngghaaWN
import Derived.Test.YtjchngehbngghaaWFootNe
import Derived.Test.YtjchngehbngghaaWAt
import Derived.Test.YtjchngehbngghaaWEqStruct
import Derived.Test.YtjchngehbngghaaWRepsOne
import Derived.Test.YtjchngehbngghaaWInv
import Derived.Test.YtjchngehbngghaaWInvWords
import Derived.Test.YtjchngehbngghaaWGuard
import Derived.Test.YtjchngehbngghaaWNEv
import Derived.Test.YtjchngehbngghaaWMore
namespace Go.Proofs.Ytjchngehbngghaa.PS
open Go.RowKit Go.Proofs.YtjchngehbngghaaW.PrintWords Go.Proofs.YtjchngehbngghaaW.PrintLast Go.Proofs.YtjchngehbngghaaW.PrintMore
attribute [local go_sem] max2_int min2_int max_two min_two max_three min_three max_four min_four   -- for this text's walks alone
set_option linter.unusedVariables false
set_option linter.unusedSimpArgs false



def errW : Option Int → Value
  | none => .nilIface
  | some c => .iface 0 (.int .i64 c)
theorem errW_none : errW none = .nilIface := rfl
theorem errW_some (c : Int) : errW (some c) = .iface 0 (.int .i64 c) := rfl

theorem info3 : (Try.prog.info? 3).map (fun i => (i.zero, i.size, i.bytes)) = some (some (.int .i64 0), 1, 8) := by kernel_rfl
-- the values' own types

end Go.Proofs.Ytjchngehbngghaa.PS
