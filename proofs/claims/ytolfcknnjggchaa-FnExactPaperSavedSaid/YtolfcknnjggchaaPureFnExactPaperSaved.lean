/- The law FnExactPaperSaved, of the printed functions alone. Conditions: as each law states them. -/
import Derived.Test.YtolfcknnjggchaaPMx4
import Derived.Test.YtolfcknnjggchaaPBest
namespace Go.Proofs.Ytolfcknnjggchaa.Pure
open Go.RowKit Go.Proofs.Ytolfcknnjggchaa.PM Go.Proofs.YtolfcknnjggchaaW.PrintWords Go.Proofs.YtolfcknnjggchaaW.PrintLast Go.Proofs.Ytolfcknnjggchaa.PEv Go.Proofs.Ytolfcknnjggchaa.PBx Go.Proofs.Ytolfcknnjggchaa.PBoxesM Go.Proofs.Ytolfcknnjggchaa.PBest
set_option linter.unusedSimpArgs false
set_option maxRecDepth 100000
set_option linter.unusedVariables false

def psres (a : Int) : Int × Bool := if (bres a).1.isEmpty then (0, false) else (wrap64 (wrap64 (6 * a) - (wb (bres a).1).2.2.2), true)
theorem FnExactPaperSaved : laws_FnExactPaperSaved.Pure := by
  intro a _
  refine Ev.rounds (r := true) ?_
  unfold laws_FnExactPaperSaved.f
  have hs : Ev (fun k => spec_PaperSaved.f k a) (psres a) := by
    unfold psres
    by_cases h : 1 ≤ a ∧ a ≤ 500
    · have hb : bres a = (bxs a, true) := by unfold bres; rw [if_pos h]
      rw [hb]
      simp only [spec_PaperSaved.f, wrBars_eq, decide_eq_true h, Option.bind_some, if_true]
      refine Ev.bind (wrBoxes_ev a h) (Ev.bind (wrBest_ev (bxs a) (Nat.le_trans (bxs_length a) (by omega)) (bxs_ok a)) ?_)
      have hw := wb_pos (bxs a) (bxs_ok a)
      cases e : bxs a with
      | nil => exact pos rfl (Ev.now _)
      | cons x r =>
        rw [e] at hw
        have := hw.2.2 (by simp)
        exact neg (by omega) (Ev.now _)
    · have hb : bres a = ([], false) := by unfold bres; rw [if_neg h]
      rw [hb]
      simp only [spec_PaperSaved.f, wrBars_eq, decide_eq_false h, Option.bind_some, Bool.false_eq_true, if_false]
      exact Ev.now _
  have hi : Ev (fun k => impl_PaperSaved.f k a) (psres a) := by
    refine Ev.bind (impl_bb a) ?_
    unfold bbres psres
    cases (bres a).1 with
    | nil => exact neg (by simp) (Ev.now _)
    | cons x r => exact pos rfl (Ev.now _)
  exact Ev.bind hs (Ev.bind hi (pos rfl (neg (by simp) (Ev.now _))))

end Go.Proofs.Ytolfcknnjggchaa.Pure
