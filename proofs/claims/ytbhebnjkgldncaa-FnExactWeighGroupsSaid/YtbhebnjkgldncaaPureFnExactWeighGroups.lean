/- WeighGroups of the program and of the reference answer alike. Conditions: none; this text speaks of the printed Lean functions alone. -/
import Derived.Test.YtbhebnjkgldncaaPFnExactWeighGroupsx1
namespace Go.Proofs.Ytbhebnjkgldncaa.Pure
open Go.RowKit Go.Proofs.Ytbhebnjkgldncaa.PFnExactWeighGroups Go.Proofs.YtbhebnjkgldncaaW.PrintWords Go.Proofs.YtbhebnjkgldncaaW.PrintLast

theorem l1In (a b c : Int) : spec_l1In.f a b c = some (decide (b ≤ a ∧ a ≤ c)) := by
  unfold spec_l1In.f
  by_cases h : a ≥ b
  · rw [if_pos h]; congr 1; apply decide_eq_decide.2; constructor
    · intro h2; exact ⟨h, h2⟩
    · intro h2; exact h2.2
  · rw [if_neg h]; congr 1; symm; apply decide_eq_false; rintro ⟨h2, _⟩; exact h h2
theorem within (a b c : Int) : impl_within.f a b c = some (decide (b ≤ a ∧ a ≤ c)) := by
  unfold impl_within.f
  by_cases h : b ≤ a
  · rw [if_pos h]; congr 1; apply decide_eq_decide.2; constructor
    · intro h2; exact ⟨h, h2⟩
    · intro h2; exact h2.2
  · rw [if_neg h]; congr 1; symm; apply decide_eq_false; rintro ⟨h2, _⟩; exact h h2
theorem FnExactWeighGroups : laws_FnExactWeighGroups.Pure := by
  intro a _
  unfold laws_FnExactWeighGroups.f spec_WeighGroups.f impl_WeighGroups.f spec_bxPan.f
  simp only [Option.bind_some, l1In, within]
  by_cases h : 2 ≤ a ∧ a ≤ 1000 <;> simp [h]

end Go.Proofs.Ytbhebnjkgldncaa.Pure
