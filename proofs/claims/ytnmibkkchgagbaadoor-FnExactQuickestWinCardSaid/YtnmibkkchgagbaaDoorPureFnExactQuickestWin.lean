/- The plain law of QuickestWin: the printed function of the program tells the number of bites as the reference's does. Conditions: the law's own. -/
import Derived.Test.YtnmibkkchgagbaaDoorAx17
import Derived.Test.YtnmibkkchgagbaaDoorPHeap2
namespace Go.Proofs.YtnmibkkchgagbaaDoor.Pure
open Go.RowKit Go.Proofs.YtnmibkkchgagbaaDoor.All Go.Proofs.YtnmibkkchgagbaaDoorW.PrintWords Go.Proofs.YtnmibkkchgagbaaDoorW.PrintLast Go.Proofs.YtnmibkkchgagbaaDoor.PEv Go.Proofs.YtnmibkkchgagbaaDoor.PChomp Go.Proofs.YtnmibkkchgagbaaDoor.PHeap2 Go.Proofs.YtnmibkkchgagbaaDoor.PQuick

theorem spec_qres (l : List Int) (hl : l.length ≤ 4000000) : spec_QuickestWin.f l = some (qres l) := by
  unfold spec_QuickestWin.f
  rw [if_pos hl]
theorem impl_qres (l : List Int) (hl : l.length ≤ 4000000) : impl_QuickestWin.f l = some (qres l) := by
  unfold impl_QuickestWin.f
  rw [if_pos hl]
  rfl
theorem FnExactQuickestWin : laws_FnExactQuickestWin.Pure := by
  intro l0 h1 h2 h3
  apply Ev.rounds
  simp only [laws_FnExactQuickestWin.f]
  by_cases hb : (l0.length : Int) > 1048576
  · exact pos hb (Ev.now _)
  refine neg hb ?_
  have hl : l0.length ≤ 4000000 := by omega
  refine Ev.bind (PCopy.copy_ev l0 hl) ?_
  rw [spec_qres l0 hl]
  refine bound (Ev.bind (PCopy.copy_ev l0 hl) ?_)
  rw [impl_qres l0 hl]
  refine bound (pos rfl ?_)
  refine Ev.step (f := fun k => (laws_toIntS.f k l0).bind fun t218 => ((laws_eqIntS.f k l0 t218).bind fun t221 => (if t221 = true then (some true) else (some false)))) (fun k => ?_) ?_
  · simp only [laws_FnExactQuickestWin.j0]
    rw [if_neg (by simp)]
  · refine Ev.bind (PCopy.copy_ev l0 hl) ?_
    exact Ev.bind (PInt.eqS l0 hl) (pos rfl (Ev.now _))
end Go.Proofs.YtnmibkkchgagbaaDoor.Pure
