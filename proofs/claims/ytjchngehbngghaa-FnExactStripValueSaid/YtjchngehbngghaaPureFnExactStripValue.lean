/- The law FnExactStripValue, of the printed functions alone. Conditions: as each law states them. -/
import Derived.Test.YtjchngehbngghaaAx13
import Derived.Test.YtjchngehbngghaaPValues
namespace Go.Proofs.Ytjchngehbngghaa.Pure
open Go.RowKit Go.Proofs.Ytjchngehbngghaa.All Go.Proofs.YtjchngehbngghaaW.PrintWords Go.Proofs.YtjchngehbngghaaW.PrintLast Go.Proofs.Ytjchngehbngghaa.PEv Go.Proofs.Ytjchngehbngghaa.PStrip Go.Proofs.Ytjchngehbngghaa.PMoves Go.Proofs.Ytjchngehbngghaa.PValues
set_option linter.unusedSimpArgs false
set_option linter.unusedVariables false

def vres (a b : Int) (u : Bool) : Int × Bool := if (1 ≤ a ∧ a ≤ 60) ∧ (1 ≤ b ∧ b ≤ 60) then (rd (vs b u a.toNat) a, true) else (0, false)
theorem spec_vres (a b : Int) (u : Bool) : Ev (fun k => spec_StripValue.f k a b u) (vres a b u) := by
  unfold vres
  by_cases h : (1 ≤ a ∧ a ≤ 60) ∧ (1 ≤ b ∧ b ≤ 60)
  · rw [if_pos h]
    have hl := vs_length b u a.toNat
    simp only [spec_StripValue.f, laStrip, decide_eq_true h, Option.bind_some, if_true]
    exact Ev.bind (laValues_ev a b u h.1) (pos (by omega) (pos (by omega) (Ev.now _)))
  · rw [if_neg h]
    simp only [spec_StripValue.f, laStrip, decide_eq_false h, Option.bind_some, Bool.false_eq_true, if_false]
    exact Ev.now _
theorem impl_vres (a b : Int) (u : Bool) : Ev (fun k => impl_StripValue.f k a b u) (vres a b u) := by
  unfold vres
  simp only [impl_StripValue.f, isStrip, Option.bind_some]
  by_cases h1 : 1 ≤ a ∧ a ≤ 60
  · by_cases h2 : 1 ≤ b ∧ b ≤ 60
    · rw [if_pos ⟨h1, h2⟩]
      have hl := vs_length b u a.toNat
      simp only [decide_eq_true h1, decide_eq_true h2, if_true]
      exact Ev.bind (values_ev a b u (by omega)) (pos (by omega) (pos (by omega) (Ev.now _)))
    · rw [if_neg (fun h => h2 h.2)]
      simp only [decide_eq_true h1, decide_eq_false h2, if_true, Bool.false_eq_true, if_false]
      exact Ev.now _
  · rw [if_neg (fun h => h1 h.1)]
    simp only [decide_eq_false h1, Bool.false_eq_true, if_false]
    exact Ev.now _
theorem FnExactStripValue : laws_FnExactStripValue.Pure := by
  intro a b u _ _
  refine Ev.rounds (r := true) ?_
  unfold laws_FnExactStripValue.f
  refine Ev.bind (spec_vres a b u) (Ev.bind (impl_vres a b u) ?_)
  exact pos rfl (neg (by simp) (Ev.now _))

end Go.Proofs.Ytjchngehbngghaa.Pure
