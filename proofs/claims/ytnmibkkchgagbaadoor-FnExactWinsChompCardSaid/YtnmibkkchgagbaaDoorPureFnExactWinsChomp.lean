/- The plain law of WinsChomp: the printed function of the program tells whether a chomp is won as the reference's does. Conditions: the law's own. -/
import Derived.Test.YtnmibkkchgagbaaDoorAx24
import Derived.Test.YtnmibkkchgagbaaDoorPHeap2
namespace Go.Proofs.YtnmibkkchgagbaaDoor.Pure
open Go.RowKit Go.Proofs.YtnmibkkchgagbaaDoor.All Go.Proofs.YtnmibkkchgagbaaDoorW.PrintWords Go.Proofs.YtnmibkkchgagbaaDoorW.PrintLast Go.Proofs.YtnmibkkchgagbaaDoor.PEv Go.Proofs.YtnmibkkchgagbaaDoor.PChomp Go.Proofs.YtnmibkkchgagbaaDoor.PHeap2

def wres (l : List Int) : Bool × Bool := (decide (0 < (hres l).1), (hres l).2)
theorem spec_wres (l : List Int) (hl : l.length ≤ 4000000) : Ev (fun k => spec_WinsChomp.f k l) (wres l) := by
  unfold wres hres
  simp only [spec_WinsChomp.f]
  refine Ev.bind (spec_isC l hl) ?_
  cases h1 : isC l with
  | true => exact pos rfl (Ev.bind (cmHeap_ev h1) (Ev.now _))
  | false => exact neg (by simp) (Ev.now _)
theorem impl_wres (l : List Int) (hl : l.length ≤ 4000000) : impl_WinsChomp.f l = some (wres l) := by
  unfold impl_WinsChomp.f
  rw [impl_h l hl]
  rfl
theorem FnExactWinsChomp : laws_FnExactWinsChomp.Pure := by
  intro l0 h1 h2 h3
  apply Ev.rounds
  simp only [laws_FnExactWinsChomp.f]
  by_cases hb : (l0.length : Int) > 1048576
  · exact pos hb (Ev.now _)
  refine neg hb ?_
  have hl : l0.length ≤ 4000000 := by omega
  refine Ev.bind (PCopy.copy_ev l0 hl) ?_
  refine Ev.bind (spec_wres l0 hl) ?_
  refine Ev.bind (PCopy.copy_ev l0 hl) ?_
  rw [impl_wres l0 hl]
  refine bound (neg (by simp) ?_)
  refine Ev.step (f := fun k => (laws_toIntS.f k l0).bind fun t218 => ((laws_eqIntS.f k l0 t218).bind fun t221 => (if t221 = true then (some true) else (some false)))) (fun k => ?_) ?_
  · simp only [laws_FnExactWinsChomp.j0]
    rw [if_neg (by simp)]
  · refine Ev.bind (PCopy.copy_ev l0 hl) ?_
    exact Ev.bind (PInt.eqS l0 hl) (pos rfl (Ev.now _))
end Go.Proofs.YtnmibkkchgagbaaDoor.Pure
