/- The law FnExactBestBox, of the printed functions alone. Conditions: as each law states them. -/
import Derived.Test.YtolfcknnjggchaaPMx5
import Derived.Test.YtolfcknnjggchaaPBest
namespace Go.Proofs.Ytolfcknnjggchaa.Pure
open Go.RowKit Go.Proofs.Ytolfcknnjggchaa.PM Go.Proofs.YtolfcknnjggchaaW.PrintWords Go.Proofs.YtolfcknnjggchaaW.PrintLast Go.Proofs.Ytolfcknnjggchaa.PEv Go.Proofs.Ytolfcknnjggchaa.PBx Go.Proofs.Ytolfcknnjggchaa.PBoxesM Go.Proofs.Ytolfcknnjggchaa.PBest
set_option linter.unusedSimpArgs false
set_option maxRecDepth 100000
set_option linter.unusedVariables false

theorem FnExactBestBox : laws_FnExactBestBox.Pure := by
  intro a _
  refine Ev.rounds (r := true) ?_
  unfold laws_FnExactBestBox.f
  have hs : Ev (fun k => spec_BestBox.f k a) (bbres a) := by
    unfold bbres
    by_cases h : 1 ≤ a ∧ a ≤ 500
    · have hb : bres a = (bxs a, true) := by unfold bres; rw [if_pos h]
      rw [hb]
      simp only [spec_BestBox.f, wrBars_eq, decide_eq_true h, Option.bind_some, if_true]
      refine Ev.bind (wrBoxes_ev a h) (Ev.bind (wrBest_ev (bxs a) (Nat.le_trans (bxs_length a) (by omega)) (bxs_ok a)) ?_)
      rw [(wb_pos (bxs a) (bxs_ok a)).1]
      exact Ev.now _
    · have hb : bres a = ([], false) := by unfold bres; rw [if_neg h]
      rw [hb]
      simp only [spec_BestBox.f, wrBars_eq, decide_eq_false h, Option.bind_some, Bool.false_eq_true, if_false]
      exact Ev.now _
  refine Ev.bind hs (Ev.bind (impl_bb a) ?_)
  simp only [laws_eqBox.f, if_true, Option.bind_some]
  exact neg (by simp) (Ev.now _)

end Go.Proofs.Ytolfcknnjggchaa.Pure
