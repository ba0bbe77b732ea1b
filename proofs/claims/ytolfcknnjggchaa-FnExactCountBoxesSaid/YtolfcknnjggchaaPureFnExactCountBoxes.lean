/- The law FnExactCountBoxes, of the printed functions alone. Conditions: as each law states them. -/
import Derived.Test.YtolfcknnjggchaaPVx4
import Derived.Test.YtolfcknnjggchaaPBoxesV
namespace Go.Proofs.Ytolfcknnjggchaa.Pure
open Go.RowKit Go.Proofs.Ytolfcknnjggchaa.PV Go.Proofs.YtolfcknnjggchaaW.PrintWords Go.Proofs.YtolfcknnjggchaaW.PrintLast Go.Proofs.Ytolfcknnjggchaa.PEv Go.Proofs.Ytolfcknnjggchaa.PBx Go.Proofs.Ytolfcknnjggchaa.PBoxesV
set_option linter.unusedSimpArgs false
set_option maxRecDepth 100000
set_option linter.unusedVariables false

theorem FnExactCountBoxes : laws_FnExactCountBoxes.Pure := by
  intro a _
  refine Ev.rounds (r := true) ?_
  unfold laws_FnExactCountBoxes.f
  have hs : Ev (fun k => spec_CountBoxes.f k a) (((bres a).1.length : Int), (bres a).2) := by
    unfold bres
    by_cases h : 1 ≤ a ∧ a ≤ 500
    · rw [if_pos h]
      simp only [spec_CountBoxes.f, wrBars_eq, decide_eq_true h, Option.bind_some, if_true]
      exact Ev.bind (wrBoxes_ev a h) (Ev.now _)
    · rw [if_neg h]
      simp only [spec_CountBoxes.f, wrBars_eq, decide_eq_false h, Option.bind_some, Bool.false_eq_true, if_false]
      exact Ev.now _
  have hi : Ev (fun k => impl_CountBoxes.f k a) (((bres a).1.length : Int), (bres a).2) := Ev.bind (impl_bres a) (Ev.now _)
  exact Ev.bind hs (Ev.bind hi (pos rfl (neg (by simp) (Ev.now _))))

end Go.Proofs.Ytolfcknnjggchaa.Pure
