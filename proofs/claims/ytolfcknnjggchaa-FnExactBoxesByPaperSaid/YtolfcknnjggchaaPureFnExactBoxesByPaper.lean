/- The law FnExactBoxesByPaper, of the printed functions alone. Conditions: as each law states them. -/
import Derived.Test.YtolfcknnjggchaaPPx3
import Derived.Test.YtolfcknnjggchaaPBoxesP
import Derived.Test.YtolfcknnjggchaaPBoxP
namespace Go.Proofs.Ytolfcknnjggchaa.Pure
open Go.RowKit Go.Proofs.Ytolfcknnjggchaa.PP Go.Proofs.YtolfcknnjggchaaW.PrintWords Go.Proofs.YtolfcknnjggchaaW.PrintLast Go.Proofs.Ytolfcknnjggchaa.PEv Go.Proofs.Ytolfcknnjggchaa.PBx Go.Proofs.Ytolfcknnjggchaa.PBoxesP
set_option linter.unusedSimpArgs false
set_option maxRecDepth 100000
set_option linter.unusedVariables false

theorem FnExactBoxesByPaper : laws_FnExactBoxesByPaper.Pure := by
  intro a _
  refine Ev.rounds (r := true) ?_
  have hs := spec_pres a
  have hi := impl_pres a
  have hl : (pres a).1.length ≤ 4000000 := pres_length a
  have he := PBox.eqS (pres a).1 hl
  obtain ⟨m, y, hm0, hm1, hm2⟩ := PBox.marked (pres a).1 hl
  unfold laws_FnExactBoxesByPaper.f
  refine Ev.bind hs (Ev.bind hi (Ev.bind he (pos rfl ?_)))
  refine Ev.step (f := fun k => (laws_markBoxS.f k (pres a).1 1).bind fun q => ((laws_heldBoxS.f k q.2 1).bind fun t => (if t < 0 then (some false) else (if t = q.1 then ((impl_BoxesByPaper.f k a).bind fun q4 => ((laws_eqBoxS.f k q4.1 (pres a).1).bind fun t2 => (if t2 = true then (laws_FnExactBoxesByPaper.j1 k q.2 q.1 (q4.2 != (pres a).2)) else (laws_FnExactBoxesByPaper.j1 k q.2 q.1 true)))) else (some false))))) (fun k => by simp only [laws_FnExactBoxesByPaper.j0]; rw [if_neg (by simp)]) ?_
  refine Ev.bind hm1 (Ev.bind hm2 (neg (show ¬ m < 0 by omega) (pos rfl ?_)))
  refine Ev.bind hi (Ev.bind he (pos rfl ?_))
  refine Ev.step (f := fun k => (laws_heldBoxS.f k y 1).bind fun t => (if t < 0 then (some false) else (if t = m then (some true) else (some false)))) (fun k => by simp only [laws_FnExactBoxesByPaper.j1]; rw [if_neg (by simp)]) ?_
  exact Ev.bind hm2 (neg (show ¬ m < 0 by omega) (pos rfl (Ev.now _)))

end Go.Proofs.Ytolfcknnjggchaa.Pure
