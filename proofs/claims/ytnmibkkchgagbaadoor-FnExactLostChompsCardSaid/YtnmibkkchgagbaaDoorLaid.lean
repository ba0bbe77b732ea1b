/- What the door's own run leaves meets the condition on the listed tables. Conditions: none. -/
import Derived.Test.YtnmibkkchgagbaaDoorRows
import Derived.Test.YtnmibkkchgagbaaDoorTie
import Derived.ProofKit
import Derived.LaidMore
import Derived.LaidHandle
import Derived.LaidLaws
namespace Go.Proofs.YtnmibkkchgagbaaDoor
open Go.RowKit
set_option maxRecDepth 100000
def laidL : List (String × DataW Unit) := Rows.fnExactChompTextRow.laid
theorem door_met (os : Os) (args : Array Value) : laidMetH Tryd.prog laidL ((World.doorLaid Tryd.prog 400 os).forCall (fun _ _ => 0) ⟨#[], args, []⟩).memory :=
  laidMetH_of_parts3 (fuel := 8) (laidMet_of_run' 8 (by kernel_rfl) (by kernel_rfl)) (by kernel_rfl) (by kernel_rfl)
theorem door_shaped (os : Os) (args : Array Value) : ((World.doorLaid Tryd.prog 400 os).forCall (fun _ _ => 0) ⟨#[], args, []⟩).Shaped Tryd.prog := World.shaped_of_RefB (by kernel_rfl) (by kernel_rfl)
end Go.Proofs.YtnmibkkchgagbaaDoor
