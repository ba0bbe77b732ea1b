/- WinsKept of the program and of the reference answer alike. Conditions: none; this text speaks of the printed Lean functions alone. -/
import Derived.Test.YtbhebnjkgldncaaPFnExactWinsKeptx1
namespace Go.Proofs.Ytbhebnjkgldncaa.OwnFnExactWinsKept
open Go.RowKit Go.Proofs.Ytbhebnjkgldncaa.PFnExactWinsKept Go.Proofs.YtbhebnjkgldncaaW.PrintWords Go.Proofs.YtbhebnjkgldncaaW.PrintLast

theorem l1In (a b c : Int) : spec_l1In.f a b c = some (decide (b ≤ a ∧ a ≤ c)) := by
  unfold spec_l1In.f
  by_cases h : a ≥ b
  · rw [if_pos h]; congr 1; apply decide_eq_decide.2; constructor
    · intro h2; exact ⟨h, h2⟩
    · intro h2; exact h2.2
  · rw [if_neg h]; congr 1; symm; apply decide_eq_false; rintro ⟨h2, _⟩; exact h h2
theorem within (a b c : Int) : impl_within.f a b c = some (decide (b ≤ a ∧ a ≤ c)) := by
  unfold impl_within.f
  by_cases h : b ≤ a
  · rw [if_pos h]; congr 1; apply decide_eq_decide.2; constructor
    · intro h2; exact ⟨h, h2⟩
    · intro h2; exact h2.2
  · rw [if_neg h]; congr 1; symm; apply decide_eq_false; rintro ⟨h2, _⟩; exact h h2
theorem good (a b : Int) : spec_brGood.f a b = some (decide (1 ≤ a ∧ a ≤ 12 ∧ 1 ≤ b ∧ b ≤ 12)) := by
  unfold spec_brGood.f
  simp only [l1In, Option.bind_some, decide_eq_true_eq]
  split
  · congr 1; apply decide_eq_decide.2; omega
  · congr 1; symm; apply decide_eq_false; omega
theorem isbar (a b : Int) : impl_isBar.f a b = some (decide (1 ≤ a ∧ a ≤ 12 ∧ 1 ≤ b ∧ b ≤ 12)) := by
  unfold impl_isBar.f
  simp only [within, Option.bind_some, decide_eq_true_eq]
  split
  · congr 1; apply decide_eq_decide.2; omega
  · congr 1; symm; apply decide_eq_false; omega
theorem heaps : ∀ i j : Fin 12, decide (Go.bits .xor .i64 (wrap64 (((i.val : Int) + 1) - 1)) (wrap64 (((j.val : Int) + 1) - 1)) > 0) = (Go.bits .xor .i64 (wrap64 (((i.val : Int) + 1) - 1)) (wrap64 (((j.val : Int) + 1) - 1)) != 0) := by decide +kernel
theorem heap (a b : Int) (h : 1 ≤ a ∧ a ≤ 12 ∧ 1 ≤ b ∧ b ≤ 12) : decide (Go.bits .xor .i64 (wrap64 (a - 1)) (wrap64 (b - 1)) > 0) = (Go.bits .xor .i64 (wrap64 (a - 1)) (wrap64 (b - 1)) != 0) := by
  have h2 := heaps ⟨(a - 1).toNat, by omega⟩ ⟨(b - 1).toNat, by omega⟩
  have e1 : (((a - 1).toNat : Nat) : Int) + 1 = a := by omega
  have e2 : (((b - 1).toNat : Nat) : Int) + 1 = b := by omega
  simp only [e1, e2] at h2
  exact h2
theorem pure (a b : Int) (_ : (Lit.int .i64 a).wf = true) (_ : (Lit.int .i64 b).wf = true) : laws_FnExactWinsKept.f a b = some true := by
  have key : ∀ (a b : Int), impl_WinsKept.f a b = spec_WinsKept.f a b := by
    intro a b
    unfold spec_WinsKept.f impl_WinsKept.f impl_KeptHeap.f impl_keptHeap.f spec_laHeap.f
    simp only [Option.bind_some, good, isbar]
    by_cases h : 1 ≤ a ∧ a ≤ 12 ∧ 1 ≤ b ∧ b ≤ 12
    · rw [decide_eq_true h, if_pos rfl, if_pos rfl, Option.bind_some, heap a b h]
    · rw [decide_eq_false h]
      rfl
  have some_ : ∀ (a b : Int), ∃ r, spec_WinsKept.f a b = some r := by
    intro a b
    unfold spec_WinsKept.f spec_laHeap.f
    simp only [Option.bind_some, good]
    repeat' split
    all_goals exact ⟨_, rfl⟩
  unfold laws_FnExactWinsKept.f laws_toBar.f
  simp only [Option.bind_some, key]
  obtain ⟨r, hr⟩ := some_ a b
  rw [hr]
  simp

end Go.Proofs.Ytbhebnjkgldncaa.OwnFnExactWinsKept
