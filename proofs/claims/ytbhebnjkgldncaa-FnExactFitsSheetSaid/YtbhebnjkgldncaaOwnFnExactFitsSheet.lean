/- FitsSheet of the program and of the reference answer alike. Conditions: none; this text speaks of the printed Lean functions alone. -/
import Derived.Test.YtbhebnjkgldncaaPFnExactFitsSheetx1
namespace Go.Proofs.Ytbhebnjkgldncaa.OwnFnExactFitsSheet
open Go.RowKit Go.Proofs.Ytbhebnjkgldncaa.PFnExactFitsSheet Go.Proofs.YtbhebnjkgldncaaW.PrintWords Go.Proofs.YtbhebnjkgldncaaW.PrintLast

theorem l1In (a b c : Int) : spec_l1In.f a b c = some (decide (b ≤ a ∧ a ≤ c)) := by
  unfold spec_l1In.f
  by_cases h : a ≥ b
  · rw [if_pos h]; congr 1; apply decide_eq_decide.2; constructor
    · intro h2; exact ⟨h, h2⟩
    · intro h2; exact h2.2
  · rw [if_neg h]; congr 1; symm; apply decide_eq_false; rintro ⟨h2, _⟩; exact h h2
theorem within (a b c : Int) : impl_within.f a b c = some (decide (b ≤ a ∧ a ≤ c)) := by
  unfold impl_within.f
  by_cases h : b ≤ a
  · rw [if_pos h]; congr 1; apply decide_eq_decide.2; constructor
    · intro h2; exact ⟨h, h2⟩
    · intro h2; exact h2.2
  · rw [if_neg h]; congr 1; symm; apply decide_eq_false; rintro ⟨h2, _⟩; exact h h2
theorem good (a b c : Int) : spec_wrGood.f a b c = some (decide (1 ≤ c ∧ c ≤ b ∧ b ≤ a ∧ a ≤ 60)) := by
  unfold spec_wrGood.f
  simp only [l1In, Option.bind_some, decide_eq_true_eq]
  split
  · split
    · congr 1; apply decide_eq_decide.2; omega
    · congr 1; symm; apply decide_eq_false; omega
  · congr 1; symm; apply decide_eq_false; omega
theorem isbox (a b c : Int) : impl_IsBox.f a b c = some (decide (1 ≤ c ∧ c ≤ b ∧ b ≤ a ∧ a ≤ 60)) := by
  unfold impl_IsBox.f
  simp only [within, Option.bind_some, decide_eq_true_eq]
  split
  · split
    · congr 1; apply decide_eq_decide.2; omega
    · congr 1; symm; apply decide_eq_false; omega
  · congr 1; symm; apply decide_eq_false; omega
theorem pure (a b c d e f : Int) (_ : (Lit.int .i64 a).wf = true) (_ : (Lit.int .i64 b).wf = true) (_ : (Lit.int .i64 c).wf = true) (_ : (Lit.int .i64 d).wf = true) (_ : (Lit.int .i64 e).wf = true) (_ : (Lit.int .i64 f).wf = true) : laws_FnExactFitsSheet.f a b c d e f = some true := by
  have key : ∀ (a b c d e f : Int), impl_FitsSheet.f a b c d e f = spec_FitsSheet.f a b c d e f := by
    intro a b c d e f
    unfold spec_FitsSheet.f impl_FitsSheet.f impl_isOver.f spec_wrSheet.f impl_Box_sheet.f
    simp only [Option.bind_some, good, isbox, l1In, within]
  have some_ : ∀ (a b c d e f : Int), ∃ r, spec_FitsSheet.f a b c d e f = some r := by
    intro a b c d e f
    unfold spec_FitsSheet.f spec_wrSheet.f
    simp only [Option.bind_some, good, l1In]
    repeat' split
    all_goals exact ⟨_, rfl⟩
  unfold laws_FnExactFitsSheet.f laws_toBox.f
  simp only [Option.bind_some, key]
  obtain ⟨r, hr⟩ := some_ a b c d e f
  rw [hr]
  simp

end Go.Proofs.Ytbhebnjkgldncaa.OwnFnExactFitsSheet
