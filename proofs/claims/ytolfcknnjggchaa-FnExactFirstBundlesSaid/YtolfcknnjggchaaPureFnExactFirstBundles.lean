/- The law FnExactFirstBundles, of the printed functions alone. Conditions: as each law states them. -/
import Derived.Test.YtolfcknnjggchaaPBx12
import Derived.Test.YtolfcknnjggchaaPFirst
import Derived.Test.YtolfcknnjggchaaPMark
namespace Go.Proofs.Ytolfcknnjggchaa.Pure
open Go.RowKit Go.Proofs.Ytolfcknnjggchaa.PB Go.Proofs.YtolfcknnjggchaaW.PrintWords Go.Proofs.YtolfcknnjggchaaW.PrintLast Go.Proofs.Ytolfcknnjggchaa.PEv
set_option linter.unusedSimpArgs false
set_option linter.unusedVariables false

theorem FnExactFirstBundles : laws_FnExactFirstBundles.Pure := by
  intro a0 a1 a2 _ _ _
  refine Ev.rounds (r := true) ?_
  have hl : (PFirst.firsts a0 a1 a2).1.length ≤ 4000000 := Nat.le_trans (PFirst.firsts_small a0 a1 a2) (by omega)
  have hs := PFirst.spec_firsts a0 a1 a2
  have hi : Ev (fun _ => impl_FirstBundles.f a0 a1 a2) (PFirst.firsts a0 a1 a2) := by rw [PFirst.impl_firsts]; exact Ev.now _
  have he := PMark.eqS (PFirst.firsts a0 a1 a2).1 hl
  obtain ⟨m, y, hm0, hm1, hm2⟩ := PMark.marked (PFirst.firsts a0 a1 a2).1 hl
  unfold laws_FnExactFirstBundles.f
  refine Ev.bind hs (Ev.bind hi (Ev.bind he (pos rfl ?_)))
  refine Ev.step (f := fun k => (laws_markIntS.f k (PFirst.firsts a0 a1 a2).1 1).bind fun q => ((laws_heldIntS.f k q.2 1).bind fun t => (if t < 0 then (some false) else (if t = q.1 then ((impl_FirstBundles.f a0 a1 a2).bind fun q4 => ((laws_eqIntS.f k q4.1 (PFirst.firsts a0 a1 a2).1).bind fun t2 => (if t2 = true then (laws_FnExactFirstBundles.j1 k q.2 q.1 (q4.2 != (PFirst.firsts a0 a1 a2).2)) else (laws_FnExactFirstBundles.j1 k q.2 q.1 true)))) else (some false))))) (fun k => by simp only [laws_FnExactFirstBundles.j0]; rw [if_neg (by simp)]) ?_
  refine Ev.bind hm1 (Ev.bind hm2 (neg (show ¬ m < 0 by omega) (pos rfl ?_)))
  refine Ev.bind hi (Ev.bind he (pos rfl ?_))
  refine Ev.step (f := fun k => (laws_heldIntS.f k y 1).bind fun t => (if t < 0 then (some false) else (if t = m then (some true) else (some false)))) (fun k => by simp only [laws_FnExactFirstBundles.j1]; rw [if_neg (by simp)]) ?_
  exact Ev.bind hm2 (neg (show ¬ m < 0 by omega) (pos rfl (Ev.now _)))

end Go.Proofs.Ytolfcknnjggchaa.Pure
