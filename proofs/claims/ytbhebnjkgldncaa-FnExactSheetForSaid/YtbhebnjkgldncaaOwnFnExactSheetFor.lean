/- SheetFor of the program and of the reference answer alike. Conditions: none; this text speaks of the printed Lean functions alone. -/
import Derived.Test.YtbhebnjkgldncaaPFnExactSheetForx1
namespace Go.Proofs.Ytbhebnjkgldncaa.OwnFnExactSheetFor
open Go.RowKit Go.Proofs.Ytbhebnjkgldncaa.PFnExactSheetFor Go.Proofs.YtbhebnjkgldncaaW.PrintWords Go.Proofs.YtbhebnjkgldncaaW.PrintLast

theorem l1In (a b c : Int) : spec_l1In.f a b c = some (decide (b ≤ a ∧ a ≤ c)) := by
  unfold spec_l1In.f
  by_cases h : a ≥ b
  · rw [if_pos h]; congr 1; apply decide_eq_decide.2; constructor
    · intro h2; exact ⟨h, h2⟩
    · intro h2; exact h2.2
  · rw [if_neg h]; congr 1; symm; apply decide_eq_false; rintro ⟨h2, _⟩; exact h h2
theorem within (a b c : Int) : impl_within.f a b c = some (decide (b ≤ a ∧ a ≤ c)) := by
  unfold impl_within.f
  by_cases h : b ≤ a
  · rw [if_pos h]; congr 1; apply decide_eq_decide.2; constructor
    · intro h2; exact ⟨h, h2⟩
    · intro h2; exact h2.2
  · rw [if_neg h]; congr 1; symm; apply decide_eq_false; rintro ⟨h2, _⟩; exact h h2
theorem good (a b c : Int) : spec_wrGood.f a b c = some (decide (1 ≤ c ∧ c ≤ b ∧ b ≤ a ∧ a ≤ 60)) := by
  unfold spec_wrGood.f
  simp only [l1In, Option.bind_some, decide_eq_true_eq]
  split
  · split
    · congr 1; apply decide_eq_decide.2; omega
    · congr 1; symm; apply decide_eq_false; omega
  · congr 1; symm; apply decide_eq_false; omega
theorem isbox (a b c : Int) : impl_IsBox.f a b c = some (decide (1 ≤ c ∧ c ≤ b ∧ b ≤ a ∧ a ≤ 60)) := by
  unfold impl_IsBox.f
  simp only [within, Option.bind_some, decide_eq_true_eq]
  split
  · split
    · congr 1; apply decide_eq_decide.2; omega
    · congr 1; symm; apply decide_eq_false; omega
  · congr 1; symm; apply decide_eq_false; omega
theorem pure (a b c d : Int) (_ : (Lit.int .i64 a).wf = true) (_ : (Lit.int .i64 b).wf = true) (_ : (Lit.int .i64 c).wf = true) (_ : (Lit.int .i64 d).wf = true) : laws_FnExactSheetFor.f a b c d = some true := by
  unfold laws_FnExactSheetFor.f laws_toBox.f spec_SheetFor.f impl_SheetFor.f impl_isOver.f spec_wrSheet.f impl_Box_sheet.f
  simp only [Option.bind_some, good, isbox, l1In, within]
  by_cases h : 1 ≤ c ∧ c ≤ b ∧ b ≤ a ∧ a ≤ 60 <;> by_cases h2 : 0 ≤ d ∧ d ≤ 60 <;> simp [h, h2]

end Go.Proofs.Ytbhebnjkgldncaa.OwnFnExactSheetFor
