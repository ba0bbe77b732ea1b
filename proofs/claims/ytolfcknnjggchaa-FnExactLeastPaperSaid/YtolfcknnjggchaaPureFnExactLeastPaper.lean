/- The law FnExactLeastPaper, of the printed functions alone. Conditions: as each law states them. -/
import Derived.Test.YtolfcknnjggchaaPBx11
import Derived.Test.YtolfcknnjggchaaPFirst
import Derived.Test.YtolfcknnjggchaaPInt
namespace Go.Proofs.Ytolfcknnjggchaa.Pure
open Go.RowKit Go.Proofs.Ytolfcknnjggchaa.PB Go.Proofs.YtolfcknnjggchaaW.PrintWords Go.Proofs.YtolfcknnjggchaaW.PrintLast Go.Proofs.Ytolfcknnjggchaa.PEv
set_option linter.unusedSimpArgs false
set_option linter.unusedVariables false

theorem FnExactLeastPaper : laws_FnExactLeastPaper.Pure := by
  intro a0 a1 a2 _ _ _
  refine Ev.rounds (r := true) ?_
  unfold laws_FnExactLeastPaper.f
  refine Ev.bind (PFirst.spec_least a0 a1 a2) ?_
  rw [PFirst.impl_least]
  simp only [Option.bind_some]
  exact pos trivial (neg (by simp) (Ev.now _))

end Go.Proofs.Ytolfcknnjggchaa.Pure
