/- Plain facts on boxes: the lists of boxes whose measure is a number. Conditions: as each law states them. -/
import Derived.Test.YtolfcknnjggchaaWWords
import Derived.Test.YtolfcknnjggchaaPEv
namespace Go.Proofs.Ytolfcknnjggchaa.PBx
open Go.RowKit Go.Proofs.YtolfcknnjggchaaW.PrintWords Go.Proofs.Ytolfcknnjggchaa.PEv
set_option linter.unusedSimpArgs false
set_option maxRecDepth 100000
set_option linter.unusedVariables false

theorem mul_in {x y M : Int} (hx : 0 ≤ x) (hx6 : x ≤ 60) (hy : 0 ≤ y) (hy6 : y ≤ M) : 0 ≤ x * y ∧ x * y ≤ 60 * M := by
  have h1 := Int.mul_nonneg hx hy
  have h2 := Int.mul_le_mul_of_nonneg_right hx6 hy
  have h3 := Int.mul_le_mul_of_nonneg_left hy6 (show (0 : Int) ≤ 60 by omega)
  omega
section
variable {α : Type} (mk : Int → Int → Int → α) (m : Int → Int → Int → Int) (much : Int)
def tals (l b : Int) : Nat → Int → List α
  | 0, _ => []
  | d + 1, i => if i ≤ b then (if m l b i = much then mk l b i :: tals l b d (i + 1) else tals l b d (i + 1)) else []
def brds (l : Int) : Nat → Int → List α
  | 0, _ => []
  | d + 1, b => if b ≤ l then tals mk m much l b 60 1 ++ brds l d (b + 1) else []
def lngs : Nat → Int → List α
  | 0, _ => []
  | d + 1, l => if l ≤ 60 then brds mk m much l 60 1 ++ lngs d (l + 1) else []
theorem tals_length (l b : Int) : ∀ (d : Nat) (i : Int), (tals mk m much l b d i).length ≤ d
  | 0, _ => by simp [tals]
  | d + 1, i => by
    have := tals_length l b d (i + 1)
    rw [tals]
    split
    · split
      · simp; omega
      · omega
    · simp
theorem brds_length (l : Int) : ∀ (d : Nat) (b : Int), (brds mk m much l d b).length ≤ 60 * d
  | 0, _ => by simp [brds]
  | d + 1, b => by
    have h1 := brds_length l d (b + 1)
    have h2 := tals_length mk m much l b 60 1
    rw [brds]
    split
    · rw [List.length_append]; omega
    · simp
theorem lngs_length : ∀ (d : Nat) (l : Int), (lngs mk m much d l).length ≤ 3600 * d
  | 0, _ => by simp [lngs]
  | d + 1, l => by
    have h1 := lngs_length d (l + 1)
    have h2 := brds_length mk m much l 60 1
    rw [lngs]
    split
    · rw [List.length_append]; omega
    · simp
theorem tals_nil (l b : Int) : ∀ (d : Nat) (i : Int), (∀ j, i ≤ j → j ≤ b → m l b j ≠ much) → tals mk m much l b d i = []
  | 0, _, _ => rfl
  | d + 1, i, h => by
    rw [tals]
    split
    · rename_i hi
      rw [if_neg (h i (Int.le_refl _) hi)]
      exact tals_nil l b d (i + 1) (fun j hj => h j (by omega))
    · rfl
theorem tals_one (l b t : Int) (ht : t ≤ b) (hm : m l b t = much) (hu : ∀ j, j ≠ t → m l b j ≠ much) : ∀ (d : Nat) (i : Int), i ≤ t → t < i + d → tals mk m much l b d i = [mk l b t]
  | 0, i, h1, h2 => by omega
  | d + 1, i, h1, h2 => by
    rw [tals, if_pos (by omega)]
    by_cases e : i = t
    · subst e
      rw [if_pos hm, tals_nil mk m much l b d (i + 1) (fun j hj _ => hu j (by omega))]
    · rw [if_neg (hu i e)]
      exact tals_one l b t ht hm hu d (i + 1) (by omega) (by omega)
theorem brds_nil (l : Int) : ∀ (d : Nat) (b : Int), (∀ b' j, b ≤ b' → 1 ≤ j → j ≤ b' → m l b' j ≠ much) → brds mk m much l d b = []
  | 0, _, _ => rfl
  | d + 1, b, h => by
    rw [brds]
    split
    · rw [tals_nil mk m much l b 60 1 (fun j h1 h2 => h b j (Int.le_refl _) h1 h2), List.nil_append]
      exact brds_nil l d (b + 1) (fun b' j h1 => h b' j (by omega))
    · rfl
theorem lngs_nil : ∀ (d : Nat) (l : Int), (∀ l' b' j, l ≤ l' → 1 ≤ b' → 1 ≤ j → m l' b' j ≠ much) → lngs mk m much d l = []
  | 0, _, _ => rfl
  | d + 1, l, h => by
    rw [lngs]
    split
    · rw [brds_nil mk m much l 60 1 (fun b' j h1 h2 _ => h l b' j (Int.le_refl _) h1 h2), List.nil_append]
      exact lngs_nil d (l + 1) (fun l' b' j h1 => h l' b' j (by omega))
    · rfl
end
/-- What a box holds. -/
def vol (l b t : Int) : Int := l * b * t
def pap (l b t : Int) : Int := 2 * (l * b + l * t + b * t)
theorem vol_up {l b i j : Int} (hl : 1 ≤ l) (hb : 1 ≤ b) (h : i ≤ j) : vol l b i ≤ vol l b j := Int.mul_le_mul_of_nonneg_left h (Int.mul_nonneg (by omega) (by omega))
theorem pap_up {l b i j : Int} (hl : 1 ≤ l) (hb : 1 ≤ b) (h : i ≤ j) : pap l b i ≤ pap l b j := by
  have h1 := Int.mul_le_mul_of_nonneg_left h (show 0 ≤ l by omega)
  have h2 := Int.mul_le_mul_of_nonneg_left h (show 0 ≤ b by omega)
  unfold pap
  omega
theorem vol_wr {l b t : Int} (hl : 0 ≤ l ∧ l ≤ 61) (hb : 0 ≤ b ∧ b ≤ 61) (ht : 0 ≤ t ∧ t ≤ 61) : wrap64 (wrap64 (l * b) * t) = vol l b t := by
  have h1 := Int.mul_nonneg hl.1 hb.1
  have h2 := Int.mul_le_mul_of_nonneg_right hl.2 hb.1
  have h3 := Int.mul_le_mul_of_nonneg_left hb.2 (show (0 : Int) ≤ 61 by omega)
  have h4 := Int.mul_nonneg h1 ht.1
  have h5 := Int.mul_le_mul_of_nonneg_right (show l * b ≤ 3721 by omega) ht.1
  have h6 := Int.mul_le_mul_of_nonneg_left ht.2 (show (0 : Int) ≤ 3721 by omega)
  unfold vol
  rw [wrap_in (x := l * b) (by omega) (by omega), wrap_in (by omega) (by omega)]
theorem pap_wr {l b t : Int} (hl : 0 ≤ l ∧ l ≤ 61) (hb : 0 ≤ b ∧ b ≤ 61) (ht : 0 ≤ t ∧ t ≤ 61) : wrap64 (2 * wrap64 (wrap64 (wrap64 (l * b) + wrap64 (l * t)) + wrap64 (b * t))) = pap l b t := by
  have h1 := Int.mul_nonneg hl.1 hb.1
  have h2 := Int.mul_le_mul_of_nonneg_right hl.2 hb.1
  have h4 := Int.mul_nonneg hl.1 ht.1
  have h5 := Int.mul_le_mul_of_nonneg_right hl.2 ht.1
  have h6 := Int.mul_nonneg hb.1 ht.1
  have h7 := Int.mul_le_mul_of_nonneg_right hb.2 ht.1
  unfold pap
  rw [wrap_in (x := l * b) (by omega) (by omega), wrap_in (x := l * t) (by omega) (by omega), wrap_in (x := b * t) (by omega) (by omega), wrap_in (x := l * b + l * t) (by omega) (by omega), wrap_in (x := l * b + l * t + b * t) (by omega) (by omega), wrap_in (by omega) (by omega)]
/-- The column of boxes long l and broad b that hold much, by division. -/
theorem col_yes {α : Type} (mk : Int → Int → Int → α) {much l b : Int} (hm : 1 ≤ much) (hl : 1 ≤ l) (hb : 1 ≤ b) (hb6 : b ≤ 60) (h1 : much % l = 0) (h2 : much / l % b = 0) (h3 : much / l / b ≤ b) : tals mk vol much l b 60 1 = [mk l b (much / l / b)] := by
  have e1 : l * (much / l) = much := Int.mul_ediv_cancel' (Int.dvd_of_emod_eq_zero h1)
  have e2 : b * (much / l / b) = much / l := Int.mul_ediv_cancel' (Int.dvd_of_emod_eq_zero h2)
  have e3 : vol l b (much / l / b) = much := by unfold vol; rw [Int.mul_assoc, e2, e1]
  have hlb : 0 < l * b := Int.mul_pos (by omega) (by omega)
  have ht : 1 ≤ much / l / b := by
    refine Classical.byContradiction fun hn => ?_
    have : vol l b (much / l / b) ≤ vol l b 0 := vol_up hl hb (by omega)
    rw [e3] at this
    unfold vol at this
    rw [Int.mul_zero] at this
    omega
  refine tals_one mk vol much l b _ h3 e3 (fun j hj e => hj ?_) 60 1 ht (by omega)
  unfold vol at e e3
  exact Int.eq_of_mul_eq_mul_left (by omega) (e.trans e3.symm)
theorem col_no {much l b j : Int} (hl : 1 ≤ l) (hb : 1 ≤ b) (e : vol l b j = much) (hj : j ≤ b) : much % l = 0 ∧ much / l % b = 0 ∧ much / l / b ≤ b := by
  unfold vol at e
  rw [Int.mul_assoc] at e
  have e1 : much / l = b * j := by rw [← e]; exact Int.mul_ediv_cancel_left _ (by omega)
  have e2 : much / l / b = j := by rw [e1]; exact Int.mul_ediv_cancel_left _ (by omega)
  refine ⟨by rw [← e]; exact Int.mul_emod_right _ _, by rw [e1]; exact Int.mul_emod_right _ _, by rw [e2]; exact hj⟩

end Go.Proofs.Ytolfcknnjggchaa.PBx
