/- GridFor of the program and of the reference answer alike: rows past the reference's last one are wider than high. Conditions: none; this text speaks of the printed Lean functions alone. -/
import Derived.Test.YtbhebnjkgldncaaPFnExactGridForx1
namespace Go.Proofs.Ytbhebnjkgldncaa.Pure
open Go.RowKit Go.Proofs.Ytbhebnjkgldncaa.PFnExactGridFor Go.Proofs.YtbhebnjkgldncaaW.PrintWords Go.Proofs.YtbhebnjkgldncaaW.PrintLast

theorem l1In (a b c : Int) : spec_l1In.f a b c = some (decide (b ≤ a ∧ a ≤ c)) := by
  unfold spec_l1In.f
  by_cases h : a ≥ b
  · rw [if_pos h]; congr 1; apply decide_eq_decide.2; constructor
    · intro h2; exact ⟨h, h2⟩
    · intro h2; exact h2.2
  · rw [if_neg h]; congr 1; symm; apply decide_eq_false; rintro ⟨h2, _⟩; exact h h2
theorem within (a b c : Int) : impl_within.f a b c = some (decide (b ≤ a ∧ a ≤ c)) := by
  unfold impl_within.f
  by_cases h : b ≤ a
  · rw [if_pos h]; congr 1; apply decide_eq_decide.2; constructor
    · intro h2; exact ⟨h, h2⟩
    · intro h2; exact h2.2
  · rw [if_neg h]; congr 1; symm; apply decide_eq_false; rintro ⟨h2, _⟩; exact h h2
theorem wid (p x : Int) (hp1 : 1 ≤ p) (hp : p ≤ 1000) (hx : 1 ≤ x) (hx2 : x ≤ 1001) : wrap64 (Int.tdiv (wrap64 ((wrap64 (p + x)) - 1)) x) = (p + x - 1) / x := by
  have e1 : wrap64 (p + x) = p + x := by unfold wrap64; omega
  have e2 : wrap64 (p + x - 1) = p + x - 1 := by unfold wrap64; omega
  have h0 : 0 ≤ (p + x - 1) / x := Int.ediv_nonneg (by omega) (by omega)
  have h1 : (p + x - 1) / x ≤ p + x - 1 := Int.ediv_le_self _ (by omega)
  rw [e1, e2, Int.tdiv_eq_ediv_of_nonneg (by omega)]
  unfold wrap64; omega
theorem narrow (p x : Int) (hx : 1 ≤ x) (h : p + x < x * x) : ¬ x ≤ (p + x - 1) / x := by
  intro h2
  have h3 : x * x ≤ p + x - 1 := (Int.le_ediv_iff_mul_le (by omega)).1 h2
  omega
/-- Past the reference's last round the program changes nothing. -/
theorem tail (p : Int) (hp1 : 1 ≤ p) (hp : p ≤ 1000) (b c : Int) : ∀ (d k : Nat) (x : Int), 1 ≤ x → x ≤ 1001 → p + x < x * x → (p + 1 - x).toNat ≤ d → d < k → impl_GridFor.l0 k p b c x = some (b, c, true) := by
  intro d
  induction d with
  | zero =>
    intro k x h1 h2 h3 hd hk
    obtain ⟨k, rfl⟩ : ∃ j, k = j + 1 := ⟨k - 1, by omega⟩
    simp only [impl_GridFor.l0]; rw [if_neg (by omega)]
  | succ d ih =>
    intro k x h1 h2 h3 hd hk
    obtain ⟨k, rfl⟩ : ∃ j, k = j + 1 := ⟨k - 1, by omega⟩
    by_cases hlt : x ≤ p
    · have e1 : wrap64 (x + 1) = x + 1 := by unfold wrap64; omega
      have h4 : p + (x + 1) < (x + 1) * (x + 1) := by
        have : (x + 1) * (x + 1) = x * x + 2 * x + 1 := by rw [Int.add_mul, Int.mul_add, Int.mul_add]; omega
        omega
      simp only [impl_GridFor.l0]
      rw [if_pos hlt, if_neg (by omega), wid p x hp1 hp h1 h2, if_neg (narrow p x h1 h3), e1]
      exact ih k (x + 1) (by omega) (by omega) h4 (by omega) (by omega)
    · simp only [impl_GridFor.l0]; rw [if_neg hlt]
theorem loops (p : Int) (hp1 : 1 ≤ p) (hp : p ≤ 1000) : ∀ (d k : Nat) (b c x : Int), 1 ≤ x → x ≤ 1001 → (x * x ≤ p + x → x ≤ p + 1) → (p + 2 - x).toNat ≤ d → d + 1 < k →
    ∃ r, spec_GridFor.l0 k p b c x = some r ∧ impl_GridFor.l0 k p b c x = some r := by
  intro d
  induction d with
  | zero =>
    intro k b c x h1 h2 _ hd hk
    obtain ⟨k, rfl⟩ : ∃ j, k = j + 1 := ⟨k - 1, by omega⟩
    have e3 : wrap64 (x * x) = x * x := by
      have : 0 ≤ x * x := Int.mul_nonneg (by omega) (by omega)
      have : x * x ≤ 1001 * 1001 := Int.mul_le_mul h2 h2 (by omega) (by omega)
      unfold wrap64; omega
    have e1 : wrap64 (p + x) = p + x := by unfold wrap64; omega
    have hbig : p + x < x * x := by
      have h9 : (p + 2) * x ≤ x * x := Int.mul_le_mul_of_nonneg_right (by omega) (by omega)
      have h10 : (p + 2) * x = p * x + 2 * x := by rw [Int.add_mul]
      have h11 : 1 * x ≤ p * x := Int.mul_le_mul_of_nonneg_right hp1 (by omega)
      omega
    refine ⟨(b, c, true), ?_, ?_⟩
    · simp only [spec_GridFor.l0]; rw [e1, e3, if_neg (by omega)]
    · simp only [impl_GridFor.l0]; rw [if_neg (by omega)]
  | succ d ih =>
    intro k b c x h1 h2 hx0 hd hk
    obtain ⟨k, rfl⟩ : ∃ j, k = j + 1 := ⟨k - 1, by omega⟩
    have e3 : wrap64 (x * x) = x * x := by
      have : 0 ≤ x * x := Int.mul_nonneg (by omega) (by omega)
      have : x * x ≤ 1001 * 1001 := Int.mul_le_mul h2 h2 (by omega) (by omega)
      unfold wrap64; omega
    have e1 : wrap64 (p + x) = p + x := by unfold wrap64; omega
    by_cases hlt : x * x ≤ p + x
    · by_cases hxp : x ≤ p
      · have e4 : wrap64 (x + 1) = x + 1 := by unfold wrap64; omega
        have hstep : ∀ b c, ∃ r, spec_GridFor.l0 k p b c (x + 1) = some r ∧ impl_GridFor.l0 k p b c (x + 1) = some r := fun b c => ih k b c (x + 1) (by omega) (by omega) (fun _ => by omega) (by omega) (by omega)
        simp only [spec_GridFor.l0, impl_GridFor.l0]
        rw [e3, if_pos (show x * x ≤ wrap64 (p + x) by rw [e1]; exact hlt), if_pos hxp, if_neg (show ¬ x = 0 by omega), if_neg (show ¬ x = 0 by omega), wid p x hp1 hp h1 h2, e4]
        by_cases c1 : x ≤ (p + x - 1) / x
        · rw [if_pos c1, if_pos c1]
          by_cases c2 : b = 0
          · rw [if_pos c2, if_pos c2]; exact hstep _ _
          · rw [if_neg c2, if_neg c2]
            by_cases c3 : wrap64 (x + (p + x - 1) / x) < wrap64 (b + c)
            · rw [if_pos c3, if_pos c3]; exact hstep _ _
            · rw [if_neg c3, if_neg c3]; exact hstep _ _
        · rw [if_neg c1, if_neg c1]; exact hstep _ _
      · -- p < x and x * x <= p + x: x = p + 1 = 2 alone; the reference looks at that row once more, and it is too wide
        have hx1 : x = p + 1 := by have := hx0 hlt; omega
        have hq : x * x = p * p + 2 * p + 1 := by rw [hx1, Int.add_mul, Int.mul_add]; omega
        have hp2 : 1 * p ≤ p * p := Int.mul_le_mul_of_nonneg_right hp1 (by omega)
        have hp0 : p = 1 ∨ 2 ≤ p := by omega
        exfalso
        omega
    · refine ⟨(b, c, true), ?_, ?_⟩
      · simp only [spec_GridFor.l0]; rw [e3, e1, if_neg hlt]
      · exact tail p hp1 hp b c (d + 1) (k + 1) x h1 h2 (by omega) (by omega) (by omega)
theorem FnExactGridFor : laws_FnExactGridFor.Pure := by
  intro a _
  refine ⟨1010, ?_⟩
  unfold laws_FnExactGridFor.f spec_GridFor.f impl_GridFor.f spec_bxWeighed.f impl_areWeighed.f
  simp only [Option.bind_some, l1In, within]
  by_cases h : 1 ≤ a ∧ a ≤ 1000
  · obtain ⟨r, h1, h2⟩ := loops a h.1 h.2 1001 1010 0 0 1 (by omega) (by omega) (by omega) (by omega) (by omega)
    rw [decide_eq_true h, if_pos rfl, if_pos rfl, h1, h2]
    simp
  · rw [decide_eq_false h]
    rfl

end Go.Proofs.Ytbhebnjkgldncaa.Pure
