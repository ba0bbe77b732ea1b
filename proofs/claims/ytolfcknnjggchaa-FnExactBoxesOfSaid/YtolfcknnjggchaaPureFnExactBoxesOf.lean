/- The law FnExactBoxesOf, of the printed functions alone. Conditions: as each law states them. -/
import Derived.Test.YtolfcknnjggchaaPVx5
import Derived.Test.YtolfcknnjggchaaPBoxesV
import Derived.Test.YtolfcknnjggchaaPBoxV
namespace Go.Proofs.Ytolfcknnjggchaa.Pure
open Go.RowKit Go.Proofs.Ytolfcknnjggchaa.PV Go.Proofs.YtolfcknnjggchaaW.PrintWords Go.Proofs.YtolfcknnjggchaaW.PrintLast Go.Proofs.Ytolfcknnjggchaa.PEv Go.Proofs.Ytolfcknnjggchaa.PBx Go.Proofs.Ytolfcknnjggchaa.PBoxesV
set_option linter.unusedSimpArgs false
set_option maxRecDepth 100000
set_option linter.unusedVariables false

theorem FnExactBoxesOf : laws_FnExactBoxesOf.Pure := by
  intro a _
  refine Ev.rounds (r := true) ?_
  have hs := spec_bres a
  have hi := impl_bres a
  have hl : (bres a).1.length ≤ 4000000 := bres_length a
  have he := PBox.eqS (bres a).1 hl
  obtain ⟨m, y, hm0, hm1, hm2⟩ := PBox.marked (bres a).1 hl
  unfold laws_FnExactBoxesOf.f
  refine Ev.bind hs (Ev.bind hi (Ev.bind he (pos rfl ?_)))
  refine Ev.step (f := fun k => (laws_markBoxS.f k (bres a).1 1).bind fun q => ((laws_heldBoxS.f k q.2 1).bind fun t => (if t < 0 then (some false) else (if t = q.1 then ((impl_BoxesOf.f k a).bind fun q4 => ((laws_eqBoxS.f k q4.1 (bres a).1).bind fun t2 => (if t2 = true then (laws_FnExactBoxesOf.j1 k q.2 q.1 (q4.2 != (bres a).2)) else (laws_FnExactBoxesOf.j1 k q.2 q.1 true)))) else (some false))))) (fun k => by simp only [laws_FnExactBoxesOf.j0]; rw [if_neg (by simp)]) ?_
  refine Ev.bind hm1 (Ev.bind hm2 (neg (show ¬ m < 0 by omega) (pos rfl ?_)))
  refine Ev.bind hi (Ev.bind he (pos rfl ?_))
  refine Ev.step (f := fun k => (laws_heldBoxS.f k y 1).bind fun t => (if t < 0 then (some false) else (if t = m then (some true) else (some false)))) (fun k => by simp only [laws_FnExactBoxesOf.j1]; rw [if_neg (by simp)]) ?_
  exact Ev.bind hm2 (neg (show ¬ m < 0 by omega) (pos rfl (Ev.now _)))

end Go.Proofs.Ytolfcknnjggchaa.Pure
