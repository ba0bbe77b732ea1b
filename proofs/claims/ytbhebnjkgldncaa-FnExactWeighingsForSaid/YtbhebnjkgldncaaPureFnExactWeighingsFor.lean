/- WeighingsFor of the program and of the reference answer alike. Conditions: none; this text speaks of the printed Lean functions alone. -/
import Derived.Test.YtbhebnjkgldncaaPFnExactWeighingsForx1
namespace Go.Proofs.Ytbhebnjkgldncaa.Pure
open Go.RowKit Go.Proofs.Ytbhebnjkgldncaa.PFnExactWeighingsFor Go.Proofs.YtbhebnjkgldncaaW.PrintWords Go.Proofs.YtbhebnjkgldncaaW.PrintLast

theorem l1In (a b c : Int) : spec_l1In.f a b c = some (decide (b ≤ a ∧ a ≤ c)) := by
  unfold spec_l1In.f
  by_cases h : a ≥ b
  · rw [if_pos h]; congr 1; apply decide_eq_decide.2; constructor
    · intro h2; exact ⟨h, h2⟩
    · intro h2; exact h2.2
  · rw [if_neg h]; congr 1; symm; apply decide_eq_false; rintro ⟨h2, _⟩; exact h h2
theorem within (a b c : Int) : impl_within.f a b c = some (decide (b ≤ a ∧ a ≤ c)) := by
  unfold impl_within.f
  by_cases h : b ≤ a
  · rw [if_pos h]; congr 1; apply decide_eq_decide.2; constructor
    · intro h2; exact ⟨h, h2⟩
    · intro h2; exact h2.2
  · rw [if_neg h]; congr 1; symm; apply decide_eq_false; rintro ⟨h2, _⟩; exact h h2
theorem loops (p : Int) (hp : p ≤ 1000) : ∀ (d k : Nat) (n m : Int), 1 ≤ m → (p - m).toNat ≤ d → d < k → 0 ≤ n → n ≤ 1000000 - d →
    ∃ r, spec_WeighingsFor.l0 k p n m = some r ∧ impl_WeighingsFor.l0 k p n m = some r := by
  intro d
  induction d with
  | zero =>
    intro k n m h1 hd hk _ _
    obtain ⟨k, rfl⟩ : ∃ j, k = j + 1 := ⟨k - 1, by omega⟩
    refine ⟨(n, true), ?_, ?_⟩
    · simp only [spec_WeighingsFor.l0]; rw [if_neg (by omega)]
    · simp only [impl_WeighingsFor.l0]; rw [if_neg (by omega)]
  | succ d ih =>
    intro k n m h1 hd hk hn hn2
    obtain ⟨k, rfl⟩ : ∃ j, k = j + 1 := ⟨k - 1, by omega⟩
    by_cases hlt : m < p
    · obtain ⟨r, h1', h2'⟩ := ih k (n + 1) (3 * m) (by omega) (by omega) (by omega) (by omega) (by omega)
      have e1 : wrap64 (n + 1) = n + 1 := by unfold wrap64; omega
      have e2 : wrap64 (m * 3) = 3 * m := by unfold wrap64; omega
      have e3 : wrap64 (3 * m) = 3 * m := by unfold wrap64; omega
      refine ⟨r, ?_, ?_⟩
      · simp only [spec_WeighingsFor.l0]; rw [if_pos hlt, e1, e2]; exact h1'
      · simp only [impl_WeighingsFor.l0]; rw [if_pos hlt, e1, e3]; exact h2'
    · refine ⟨(n, true), ?_, ?_⟩
      · simp only [spec_WeighingsFor.l0]; rw [if_neg hlt]
      · simp only [impl_WeighingsFor.l0]; rw [if_neg hlt]
theorem FnExactWeighingsFor : laws_FnExactWeighingsFor.Pure := by
  intro a _
  refine ⟨1001, ?_⟩
  unfold laws_FnExactWeighingsFor.f spec_WeighingsFor.f impl_WeighingsFor.f spec_bxWeighed.f impl_areWeighed.f
  simp only [Option.bind_some, l1In, within]
  by_cases h : 1 ≤ a ∧ a ≤ 1000
  · obtain ⟨r, h1, h2⟩ := loops a h.2 1000 1001 0 1 (by omega) (by omega) (by omega) (by omega) (by omega)
    rw [decide_eq_true h, if_pos rfl, if_pos rfl, h1, h2]
    simp
  · rw [decide_eq_false h]
    rfl

end Go.Proofs.Ytbhebnjkgldncaa.Pure
