/- Plain facts on boxes by what they hold, of the printed functions. Conditions: as each law states them. -/
import Derived.Test.YtolfcknnjggchaaPBx4
import Derived.Test.YtolfcknnjggchaaPBx
namespace Go.Proofs.Ytolfcknnjggchaa.PBoxesB
open Go.RowKit Go.Proofs.Ytolfcknnjggchaa.PB Go.Proofs.YtolfcknnjggchaaW.PrintWords Go.Proofs.YtolfcknnjggchaaW.PrintLast Go.Proofs.Ytolfcknnjggchaa.PEv Go.Proofs.Ytolfcknnjggchaa.PBx
set_option linter.unusedSimpArgs false
set_option maxRecDepth 100000
set_option linter.unusedVariables false

theorem im_l2 (much : Int) (l b : Int) (hl : 1 ≤ l ∧ l ≤ 60) (hb : 1 ≤ b ∧ b ≤ 60) (B : Nat) (hB : B ≤ 1000000) (rest : List S31)
    (hnext : ∀ acc : List S31, acc.length ≤ B + 60 → Ev (fun k => impl_boxes.l1 k much acc l (b + 1)) (acc ++ rest)) :
    ∀ (d : Nat) (i : Int) (acc : List S31), 1 ≤ i → i ≤ 61 → b < i + d → d ≤ 60 → acc.length + d ≤ B + 60 → Ev (fun k => impl_boxes.l2 k much acc l b i) (acc ++ (tals S31.mk vol much l b d i ++ rest)) := by
  intro d
  induction d with
  | zero =>
    intro i acc h1 h2 h3 h4 h5
    rw [tals, List.nil_append]
    refine Ev.step (f := fun k => impl_boxes.l1 k much acc l (b + 1)) (fun k => ?_) (hnext acc (by omega))
    simp only [impl_boxes.l2]
    rw [if_neg (by omega), wrap_in (x := b + 1) (by omega) (by omega)]
  | succ d ih =>
    intro i acc h1 h2 h3 h4 h5
    rw [tals]
    by_cases hi : i ≤ b
    · rw [if_pos hi]
      have hm : impl_Box_volume.f l b i = some (vol l b i) := by unfold impl_Box_volume.f; rw [vol_wr (by omega) (by omega) (by omega)]
      by_cases e : vol l b i = much
      · rw [if_pos e]
        have := ih (i + 1) (acc ++ [⟨l, b, i⟩]) (by omega) (by omega) (by omega) (by omega) (by simp; omega)
        rw [List.append_assoc, List.singleton_append] at this
        refine Ev.step (f := fun k => impl_boxes.l2 k much (acc ++ [⟨l, b, i⟩]) l b (i + 1)) (fun k => ?_) this
        simp only [impl_boxes.l2, hm, Option.bind_some]
        rw [if_pos hi, if_pos e, if_pos (by omega), wrap_in (x := i + 1) (by omega) (by omega)]
      · rw [if_neg e]
        by_cases g : vol l b i > much
        · rw [tals_nil S31.mk vol much l b d (i + 1) (fun j hj _ => by
            have := vol_up (i := i) (j := j) hl.1 hb.1 (by omega)
            omega), List.nil_append]
          refine Ev.step (f := fun k => impl_boxes.l1 k much acc l (b + 1)) (fun k => ?_) (hnext acc (by omega))
          simp only [impl_boxes.l2, hm, Option.bind_some]
          rw [if_pos hi, if_neg e, if_pos g, wrap_in (x := b + 1) (by omega) (by omega)]
        · refine Ev.step (f := fun k => impl_boxes.l2 k much acc l b (i + 1)) (fun k => ?_) (ih (i + 1) acc (by omega) (by omega) (by omega) (by omega) (by omega))
          simp only [impl_boxes.l2, hm, Option.bind_some]
          rw [if_pos hi, if_neg e, if_neg g, wrap_in (x := i + 1) (by omega) (by omega)]
    · rw [if_neg hi, List.nil_append]
      refine Ev.step (f := fun k => impl_boxes.l1 k much acc l (b + 1)) (fun k => ?_) (hnext acc (by omega))
      simp only [impl_boxes.l2]
      rw [if_neg hi, wrap_in (x := b + 1) (by omega) (by omega)]
theorem im_l1 (much : Int) (l : Int) (hl : 1 ≤ l ∧ l ≤ 60) (B : Nat) (hB : B ≤ 900000) (rest : List S31)
    (hnext : ∀ acc : List S31, acc.length ≤ B + 3660 → Ev (fun k => impl_boxes.l0 k much acc (l + 1)) (acc ++ rest)) :
    ∀ (d : Nat) (b : Int) (acc : List S31), 1 ≤ b → b ≤ 61 → l < b + d → d ≤ 60 → acc.length + 60 * d ≤ B + 3600 → Ev (fun k => impl_boxes.l1 k much acc l b) (acc ++ (brds S31.mk vol much l d b ++ rest)) := by
  intro d
  induction d with
  | zero =>
    intro b acc h1 h2 h3 h4 h5
    rw [brds, List.nil_append]
    refine Ev.step (f := fun k => impl_boxes.l0 k much acc (l + 1)) (fun k => ?_) (hnext acc (by omega))
    simp only [impl_boxes.l1]
    rw [if_neg (by omega), wrap_in (x := l + 1) (by omega) (by omega)]
  | succ d ih =>
    intro b acc h1 h2 h3 h4 h5
    rw [brds]
    by_cases hb : b ≤ l
    · rw [if_pos hb]
      have := im_l2 much l b hl (by omega) (acc.length) (by omega) (brds S31.mk vol much l d (b + 1) ++ rest) (fun acc' ha => ih (b + 1) acc' (by omega) (by omega) (by omega) (by omega) (by omega)) 60 1 acc (by omega) (by omega) (by omega) (by omega) (by omega)
      rw [← List.append_assoc (tals S31.mk vol much l b 60 1)] at this
      refine Ev.step (f := fun k => impl_boxes.l2 k much acc l b 1) (fun k => ?_) this
      simp only [impl_boxes.l1]
      rw [if_pos hb]
    · rw [if_neg hb, List.nil_append]
      refine Ev.step (f := fun k => impl_boxes.l0 k much acc (l + 1)) (fun k => ?_) (hnext acc (by omega))
      simp only [impl_boxes.l1]
      rw [if_neg hb, wrap_in (x := l + 1) (by omega) (by omega)]
theorem im_l0 (much : Int) : ∀ (d : Nat) (l : Int) (acc : List S31), 1 ≤ l → 60 < l + d → d ≤ 60 → acc.length + 4000 * d ≤ 400000 → Ev (fun k => impl_boxes.l0 k much acc l) (acc ++ lngs S31.mk vol much d l) := by
  intro d
  induction d with
  | zero =>
    intro l acc h1 h2 h3 h4
    rw [lngs, List.append_nil]
    refine Ev.step (f := fun _ => some acc) (fun k => ?_) (Ev.now _)
    simp only [impl_boxes.l0]
    rw [if_neg (by omega)]
  | succ d ih =>
    intro l acc h1 h2 h3 h4
    rw [lngs]
    by_cases hl : l ≤ 60
    · rw [if_pos hl]
      have := im_l1 much l ⟨h1, hl⟩ acc.length (by omega) (lngs S31.mk vol much d (l + 1)) (fun acc' ha => ih (l + 1) acc' (by omega) (by omega) (by omega) (by omega)) 60 1 acc (by omega) (by omega) (by omega) (by omega) (by omega)
      refine Ev.step (f := fun k => impl_boxes.l1 k much acc l 1) (fun k => ?_) this
      simp only [impl_boxes.l0]
      rw [if_pos hl]
    · rw [if_neg hl, List.append_nil]
      refine Ev.step (f := fun _ => some acc) (fun k => ?_) (Ev.now _)
      simp only [impl_boxes.l0]
      rw [if_neg hl]
/-- All boxes of which the measure is so much. -/
def bxs (much : Int) : List S31 := lngs S31.mk vol much 60 1
theorem bxs_length (much : Int) : (bxs much).length ≤ 216000 := by
  have h := lngs_length S31.mk vol much 60 1
  unfold bxs
  omega
theorem boxes_ev (much : Int) : Ev (fun k => impl_boxes.f k much) (bxs much) := by
  have := im_l0 much 60 1 [] (by omega) (by omega) (by omega) (by simp)
  rw [List.nil_append] at this
  exact Ev.congr (fun k => rfl) this

theorem td {x y : Int} (hx : 0 ≤ x) : Int.tdiv x y = x / y := Int.tdiv_eq_ediv_of_nonneg hx
theorem tm {x y : Int} (hx : 0 ≤ x) : Int.tmod x y = x % y := Int.tmod_eq_emod_of_nonneg hx
theorem sp_l1 (much : Int) (hmu : 1 ≤ much ∧ much ≤ 500) (l : Int) (hl : 1 ≤ l ∧ l ≤ 60) (hdiv : much % l = 0) (B : Nat) (hB : B ≤ 90000) (rest : List S31)
    (hnext : ∀ acc : List S31, acc.length ≤ B + 60 → Ev (fun k => spec_wrBoxes.l0 k much acc (l + 1)) (acc ++ rest)) :
    ∀ (d : Nat) (b : Int) (acc : List S31), 1 ≤ b → b ≤ 61 → l < b + d → d ≤ 60 → acc.length + d ≤ B + 60 → Ev (fun k => spec_wrBoxes.l1 k much acc l b) (acc ++ (brds S31.mk vol much l d b ++ rest)) := by
  intro d
  induction d with
  | zero =>
    intro b acc h1 h2 h3 h4 h5
    rw [brds, List.nil_append]
    refine Ev.step (f := fun k => spec_wrBoxes.l0 k much acc (l + 1)) (fun k => ?_) (hnext acc (by omega))
    simp only [spec_wrBoxes.l1]
    rw [if_neg (by omega), wrap_in (x := l + 1) (by omega) (by omega)]
  | succ d ih =>
    intro b acc h1 h2 h3 h4 h5
    have hq0 : 0 ≤ much / l := Int.ediv_nonneg (by omega) (by omega)
    have hq1 : much / l ≤ much := Int.ediv_le_self _ (by omega)
    have hr0 : 0 ≤ much / l / b := Int.ediv_nonneg hq0 (by omega)
    have hr1 : much / l / b ≤ much / l := Int.ediv_le_self _ hq0
    have ew : wrap64 (Int.tdiv much l) = much / l := by rw [td (by omega), wrap_in (by omega) (by omega)]
    have ew2 : wrap64 (Int.tdiv (much / l) b) = much / l / b := by rw [td hq0, wrap_in (by omega) (by omega)]
    rw [brds]
    by_cases hb : b ≤ l
    · rw [if_pos hb]
      by_cases g2 : much / l % b = 0
      · by_cases g3 : much / l / b ≤ b
        · rw [col_yes S31.mk hmu.1 hl.1 h1 (by omega) hdiv g2 g3]
          have := ih (b + 1) (acc ++ [⟨l, b, much / l / b⟩]) (by omega) (by omega) (by omega) (by omega) (by simp; omega)
          rw [List.append_assoc] at this
          refine Ev.step (f := fun k => spec_wrBoxes.l1 k much (acc ++ [⟨l, b, much / l / b⟩]) l (b + 1)) (fun k => ?_) (by rw [List.append_assoc]; exact this)
          simp only [spec_wrBoxes.l1]
          rw [if_pos hb, if_neg (by omega), if_neg (by omega), ew, tm hq0, if_pos g2, ew2, if_pos g3, if_pos (by omega), wrap_in (x := b + 1) (by omega) (by omega)]
        · rw [tals_nil S31.mk vol much l b 60 1 (fun j _ hj e => g3 (col_no hl.1 h1 e hj).2.2), List.nil_append]
          refine Ev.step (f := fun k => spec_wrBoxes.l1 k much acc l (b + 1)) (fun k => ?_) (ih (b + 1) acc (by omega) (by omega) (by omega) (by omega) (by omega))
          simp only [spec_wrBoxes.l1]
          rw [if_pos hb, if_neg (by omega), if_neg (by omega), ew, tm hq0, if_pos g2, ew2, if_neg g3, wrap_in (x := b + 1) (by omega) (by omega)]
      · rw [tals_nil S31.mk vol much l b 60 1 (fun j _ hj e => g2 (col_no hl.1 h1 e hj).2.1), List.nil_append]
        refine Ev.step (f := fun k => spec_wrBoxes.l1 k much acc l (b + 1)) (fun k => ?_) (ih (b + 1) acc (by omega) (by omega) (by omega) (by omega) (by omega))
        simp only [spec_wrBoxes.l1]
        rw [if_pos hb, if_neg (by omega), if_neg (by omega), ew, tm hq0, if_neg g2, wrap_in (x := b + 1) (by omega) (by omega)]
    · rw [if_neg hb, List.nil_append]
      refine Ev.step (f := fun k => spec_wrBoxes.l0 k much acc (l + 1)) (fun k => ?_) (hnext acc (by omega))
      simp only [spec_wrBoxes.l1]
      rw [if_neg hb, wrap_in (x := l + 1) (by omega) (by omega)]
theorem sp_l0 (much : Int) (hmu : 1 ≤ much ∧ much ≤ 500) : ∀ (d : Nat) (l : Int) (acc : List S31), 1 ≤ l → 60 < l + d → d ≤ 60 → acc.length + 60 * d ≤ 90000 → Ev (fun k => spec_wrBoxes.l0 k much acc l) (acc ++ lngs S31.mk vol much d l) := by
  intro d
  induction d with
  | zero =>
    intro l acc h1 h2 h3 h4
    rw [lngs, List.append_nil]
    by_cases hm : l ≤ much
    · refine Ev.step (f := fun k => spec_wrBoxes.j1 k much acc l false) (fun k => ?_) (Ev.step (f := fun _ => some acc) (fun k => ?_) (Ev.now _))
      · simp only [spec_wrBoxes.l0]
        rw [if_pos hm, decide_eq_false (by omega)]
      · simp only [spec_wrBoxes.j1]
        rw [if_neg (by simp)]
    · refine Ev.step (f := fun k => spec_wrBoxes.j1 k much acc l false) (fun k => ?_) (Ev.step (f := fun _ => some acc) (fun k => ?_) (Ev.now _))
      · simp only [spec_wrBoxes.l0]
        rw [if_neg hm]
      · simp only [spec_wrBoxes.j1]
        rw [if_neg (by simp)]
  | succ d ih =>
    intro l acc h1 h2 h3 h4
    by_cases hm : l ≤ much
    · rw [lngs]
      by_cases hl : l ≤ 60
      · rw [if_pos hl]
        by_cases hdiv : much % l = 0
        · have := sp_l1 much hmu l ⟨h1, hl⟩ hdiv acc.length (by omega) (lngs S31.mk vol much d (l + 1)) (fun acc' ha => ih (l + 1) acc' (by omega) (by omega) (by omega) (by omega)) 60 1 acc (by omega) (by omega) (by omega) (by omega) (by omega)
          refine Ev.step (f := fun k => spec_wrBoxes.j1 k much acc l true) (fun k => ?_) (Ev.step (f := fun k => spec_wrBoxes.l1 k much acc l 1) (fun k => ?_) this)
          · simp only [spec_wrBoxes.l0]
            rw [if_pos hm, decide_eq_true hl]
          · simp only [spec_wrBoxes.j1]
            rw [if_pos trivial, if_neg (by omega), tm (by omega), if_pos hdiv]
        · rw [brds_nil S31.mk vol much l 60 1 (fun b' j g1 g2 g3 e => hdiv (col_no h1 g1 e g3).1), List.nil_append]
          refine Ev.step (f := fun k => spec_wrBoxes.j1 k much acc l true) (fun k => ?_) (Ev.step (f := fun k => spec_wrBoxes.l0 k much acc (l + 1)) (fun k => ?_) (ih (l + 1) acc (by omega) (by omega) (by omega) (by omega)))
          · simp only [spec_wrBoxes.l0]
            rw [if_pos hm, decide_eq_true hl]
          · simp only [spec_wrBoxes.j1]
            rw [if_pos trivial, if_neg (by omega), tm (by omega), if_neg hdiv, wrap_in (x := l + 1) (by omega) (by omega)]
      · rw [if_neg hl, List.append_nil]
        refine Ev.step (f := fun k => spec_wrBoxes.j1 k much acc l false) (fun k => ?_) (Ev.step (f := fun _ => some acc) (fun k => ?_) (Ev.now _))
        · simp only [spec_wrBoxes.l0]
          rw [if_pos hm, decide_eq_false hl]
        · simp only [spec_wrBoxes.j1]
          rw [if_neg (by simp)]
    · rw [lngs_nil S31.mk vol much (d + 1) l (fun l' b' j g1 g2 g3 => by
        have e1 := Int.mul_le_mul_of_nonneg_left g2 (show 0 ≤ l' by omega)
        have e2 := Int.mul_le_mul_of_nonneg_left g3 (show 0 ≤ l' * b' by omega)
        unfold vol
        omega), List.append_nil]
      refine Ev.step (f := fun k => spec_wrBoxes.j1 k much acc l false) (fun k => ?_) (Ev.step (f := fun _ => some acc) (fun k => ?_) (Ev.now _))
      · simp only [spec_wrBoxes.l0]
        rw [if_neg hm]
      · simp only [spec_wrBoxes.j1]
        rw [if_neg (by simp)]
theorem wrBoxes_ev (much : Int) (hmu : 1 ≤ much ∧ much ≤ 500) : Ev (fun k => spec_wrBoxes.f k much) (bxs much) := by
  have := sp_l0 much hmu 60 1 [] (by omega) (by omega) (by omega) (by simp)
  rw [List.nil_append] at this
  exact Ev.congr (fun k => rfl) this
theorem within_eq (a lo hi : Int) : impl_within.f a lo hi = some (decide (lo ≤ a ∧ a ≤ hi)) := by
  unfold impl_within.f
  by_cases h : lo ≤ a
  · simp [h]
  · simp [h]
end Go.Proofs.Ytolfcknnjggchaa.PBoxesB
