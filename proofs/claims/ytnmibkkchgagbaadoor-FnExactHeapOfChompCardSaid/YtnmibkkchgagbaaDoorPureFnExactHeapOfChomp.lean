/- The plain law of HeapOfChomp: the printed function of the program tells the heap of a chomp as the reference's does. Conditions: the law's own. -/
import Derived.Test.YtnmibkkchgagbaaDoorAx18
import Derived.Test.YtnmibkkchgagbaaDoorPHeap2
namespace Go.Proofs.YtnmibkkchgagbaaDoor.Pure
open Go.RowKit Go.Proofs.YtnmibkkchgagbaaDoor.All Go.Proofs.YtnmibkkchgagbaaDoorW.PrintWords Go.Proofs.YtnmibkkchgagbaaDoorW.PrintLast Go.Proofs.YtnmibkkchgagbaaDoor.PEv Go.Proofs.YtnmibkkchgagbaaDoor.PChomp Go.Proofs.YtnmibkkchgagbaaDoor.PHeap2

theorem spec_hres (l : List Int) (hl : l.length ≤ 4000000) : Ev (fun k => spec_HeapOfChomp.f k l) (hres l) := by
  unfold hres
  simp only [spec_HeapOfChomp.f]
  refine Ev.bind (spec_isC l hl) ?_
  cases h1 : isC l with
  | true => exact pos rfl (Ev.bind (cmHeap_ev h1) (Ev.now _))
  | false => exact neg (by simp) (Ev.now _)
theorem FnExactHeapOfChomp : laws_FnExactHeapOfChomp.Pure := by
  intro l0 h1 h2 h3
  apply Ev.rounds
  simp only [laws_FnExactHeapOfChomp.f]
  by_cases hb : (l0.length : Int) > 1048576
  · exact pos hb (Ev.now _)
  refine neg hb ?_
  have hl : l0.length ≤ 4000000 := by omega
  refine Ev.bind (PCopy.copy_ev l0 hl) ?_
  refine Ev.bind (spec_hres l0 hl) ?_
  refine Ev.bind (PCopy.copy_ev l0 hl) ?_
  rw [impl_h l0 hl]
  refine bound (pos rfl ?_)
  refine Ev.step (f := fun k => (laws_toIntS.f k l0).bind fun t218 => ((laws_eqIntS.f k l0 t218).bind fun t221 => (if t221 = true then (some true) else (some false)))) (fun k => ?_) ?_
  · simp only [laws_FnExactHeapOfChomp.j0]
    rw [if_neg (by simp)]
  · refine Ev.bind (PCopy.copy_ev l0 hl) ?_
    exact Ev.bind (PInt.eqS l0 hl) (pos rfl (Ev.now _))
end Go.Proofs.YtnmibkkchgagbaaDoor.Pure
