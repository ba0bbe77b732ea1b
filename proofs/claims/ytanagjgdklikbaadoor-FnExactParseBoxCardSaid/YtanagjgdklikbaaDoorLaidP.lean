/- What the door's own run leaves meets the condition on the readers' listed tables and errors; and what that condition says of the variables. Conditions: none. -/
import Derived.Test.YtanagjgdklikbaaDoorRows
import Derived.Test.YtanagjgdklikbaaDoorTie
import Derived.Test.YtanagjgdklikbaaDoorGNum
import Derived.ProofKit
import Derived.LaidMore
import Derived.LaidHandle
import Derived.LaidLaws
import Derived.Stop.LaidErr
import Derived.Lib.LaidTab
namespace Go.Proofs.YtanagjgdklikbaaDoor
open Go.RowKit
set_option maxRecDepth 100000
namespace P
def laidL : List (String × DataW Unit) := Rows.fnExactParseBarRow.laid
theorem door_met (os : Os) (args : Array Value) : laidMetH Tryd.prog laidL ((World.doorLaid Tryd.prog 400 os).forCall (fun _ _ => 0) ⟨#[], args, []⟩).memory :=
  laidMetH_of_parts3 (fuel := 8) (laidMet_of_run' 8 (by kernel_rfl) (by kernel_rfl)) (by kernel_rfl) (by kernel_rfl)
theorem door_shaped (os : Os) (args : Array Value) : ((World.doorLaid Tryd.prog 400 os).forCall (fun _ _ => 0) ⟨#[], args, []⟩).Shaped Tryd.prog := World.shaped_of_RefB (by kernel_rfl) (by kernel_rfl)
theorem row111 (u : TypeId) (h : Tryd.prog.typeName? 3 u = some "*errors.errorString") : u = 111 :=
  typeName_ptr_named (nm := "errors.errorString") (by rw [show "*" ++ "errors.errorString" = "*errors.errorString" by decide]; kernel_rfl) (by kernel_rfl) (by decide) u (by rw [show "*" ++ "errors.errorString" = "*errors.errorString" by decide]; exact h)
theorem laidW_of {w : World} (h : laidMetH Tryd.prog laidL w) : All.LaidW w := by
  have h0 : laidMet Tryd.prog laidL w := h
  have h1 := h0.tail.tail
  obtain ⟨a0, s0, hv0, -, -, -⟩ := laid_sentinel (ti := 68) (tp := 111) (te := 113) (ts := 9) h1.tail (show Tryd.prog.globalNamed "strconv.ErrRange" = some 3 by kernel_rfl) (by kernel_rfl) Tryd.underlying68 row111 Tryd.underlying111 Tryd.underlying113 rfl rfl Tryd.underlying9 (by kernel_rfl) (by kernel_rfl)
  obtain ⟨a1, s1, hv1, -, -, -⟩ := laid_sentinel (ti := 68) (tp := 111) (te := 113) (ts := 9) h1.tail.tail (show Tryd.prog.globalNamed "strconv.ErrSyntax" = some 2 by kernel_rfl) (by kernel_rfl) Tryd.underlying68 row111 Tryd.underlying111 Tryd.underlying113 rfl rfl Tryd.underlying9 (by kernel_rfl) (by kernel_rfl)
  refine ⟨Lib.tabIs_of_head (t := 95) (e := 82) (n := 20) (show Tryd.prog.globalNamed "internal/strconv.uint64pow10" = some 1 by kernel_rfl) (by kernel_rfl) Tryd.underlying95 Tryd.underlying82 (by kernel_rfl) (by kernel_rfl) h1, ⟨_, _, hv1⟩, _, _, hv0⟩
end P
end Go.Proofs.YtanagjgdklikbaaDoor
