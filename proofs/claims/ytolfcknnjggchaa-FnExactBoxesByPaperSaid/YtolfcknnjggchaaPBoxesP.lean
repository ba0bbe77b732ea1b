/- Plain facts on boxes by their paper, of the printed functions. Conditions: as each law states them. -/
import Derived.Test.YtolfcknnjggchaaPPx2
import Derived.Test.YtolfcknnjggchaaPPx3
import Derived.Test.YtolfcknnjggchaaPBx
namespace Go.Proofs.Ytolfcknnjggchaa.PBoxesP
open Go.RowKit Go.Proofs.Ytolfcknnjggchaa.PP Go.Proofs.YtolfcknnjggchaaW.PrintWords Go.Proofs.YtolfcknnjggchaaW.PrintLast Go.Proofs.Ytolfcknnjggchaa.PEv Go.Proofs.Ytolfcknnjggchaa.PBx
set_option linter.unusedSimpArgs false
set_option maxRecDepth 100000
set_option linter.unusedVariables false

theorem im_l2 (much : Int) (l b : Int) (hl : 1 ≤ l ∧ l ≤ 60) (hb : 1 ≤ b ∧ b ≤ 60) (B : Nat) (hB : B ≤ 1000000) (rest : List S31)
    (hnext : ∀ acc : List S31, acc.length ≤ B + 60 → Ev (fun k => impl_boxes.l1 k much acc l (b + 1)) (acc ++ rest)) :
    ∀ (d : Nat) (i : Int) (acc : List S31), 1 ≤ i → i ≤ 61 → b < i + d → d ≤ 60 → acc.length + d ≤ B + 60 → Ev (fun k => impl_boxes.l2 k much acc l b i) (acc ++ (tals S31.mk pap much l b d i ++ rest)) := by
  intro d
  induction d with
  | zero =>
    intro i acc h1 h2 h3 h4 h5
    rw [tals, List.nil_append]
    refine Ev.step (f := fun k => impl_boxes.l1 k much acc l (b + 1)) (fun k => ?_) (hnext acc (by omega))
    simp only [impl_boxes.l2]
    rw [if_neg (by omega), wrap_in (x := b + 1) (by omega) (by omega)]
  | succ d ih =>
    intro i acc h1 h2 h3 h4 h5
    rw [tals]
    by_cases hi : i ≤ b
    · rw [if_pos hi]
      have hm : impl_Box_paper.f l b i = some (pap l b i) := by unfold impl_Box_paper.f; rw [pap_wr (by omega) (by omega) (by omega)]
      by_cases e : pap l b i = much
      · rw [if_pos e]
        have := ih (i + 1) (acc ++ [⟨l, b, i⟩]) (by omega) (by omega) (by omega) (by omega) (by simp; omega)
        rw [List.append_assoc, List.singleton_append] at this
        refine Ev.step (f := fun k => impl_boxes.l2 k much (acc ++ [⟨l, b, i⟩]) l b (i + 1)) (fun k => ?_) this
        simp only [impl_boxes.l2, hm, Option.bind_some]
        rw [if_pos hi, if_pos e, if_pos (by omega), wrap_in (x := i + 1) (by omega) (by omega)]
      · rw [if_neg e]
        by_cases g : pap l b i > much
        · rw [tals_nil S31.mk pap much l b d (i + 1) (fun j hj _ => by
            have := pap_up (i := i) (j := j) hl.1 hb.1 (by omega)
            omega), List.nil_append]
          refine Ev.step (f := fun k => impl_boxes.l1 k much acc l (b + 1)) (fun k => ?_) (hnext acc (by omega))
          simp only [impl_boxes.l2, hm, Option.bind_some]
          rw [if_pos hi, if_neg e, if_pos g, wrap_in (x := b + 1) (by omega) (by omega)]
        · refine Ev.step (f := fun k => impl_boxes.l2 k much acc l b (i + 1)) (fun k => ?_) (ih (i + 1) acc (by omega) (by omega) (by omega) (by omega) (by omega))
          simp only [impl_boxes.l2, hm, Option.bind_some]
          rw [if_pos hi, if_neg e, if_neg g, wrap_in (x := i + 1) (by omega) (by omega)]
    · rw [if_neg hi, List.nil_append]
      refine Ev.step (f := fun k => impl_boxes.l1 k much acc l (b + 1)) (fun k => ?_) (hnext acc (by omega))
      simp only [impl_boxes.l2]
      rw [if_neg hi, wrap_in (x := b + 1) (by omega) (by omega)]
theorem im_l1 (much : Int) (l : Int) (hl : 1 ≤ l ∧ l ≤ 60) (B : Nat) (hB : B ≤ 900000) (rest : List S31)
    (hnext : ∀ acc : List S31, acc.length ≤ B + 3660 → Ev (fun k => impl_boxes.l0 k much acc (l + 1)) (acc ++ rest)) :
    ∀ (d : Nat) (b : Int) (acc : List S31), 1 ≤ b → b ≤ 61 → l < b + d → d ≤ 60 → acc.length + 60 * d ≤ B + 3600 → Ev (fun k => impl_boxes.l1 k much acc l b) (acc ++ (brds S31.mk pap much l d b ++ rest)) := by
  intro d
  induction d with
  | zero =>
    intro b acc h1 h2 h3 h4 h5
    rw [brds, List.nil_append]
    refine Ev.step (f := fun k => impl_boxes.l0 k much acc (l + 1)) (fun k => ?_) (hnext acc (by omega))
    simp only [impl_boxes.l1]
    rw [if_neg (by omega), wrap_in (x := l + 1) (by omega) (by omega)]
  | succ d ih =>
    intro b acc h1 h2 h3 h4 h5
    rw [brds]
    by_cases hb : b ≤ l
    · rw [if_pos hb]
      have := im_l2 much l b hl (by omega) (acc.length) (by omega) (brds S31.mk pap much l d (b + 1) ++ rest) (fun acc' ha => ih (b + 1) acc' (by omega) (by omega) (by omega) (by omega) (by omega)) 60 1 acc (by omega) (by omega) (by omega) (by omega) (by omega)
      rw [← List.append_assoc (tals S31.mk pap much l b 60 1)] at this
      refine Ev.step (f := fun k => impl_boxes.l2 k much acc l b 1) (fun k => ?_) this
      simp only [impl_boxes.l1]
      rw [if_pos hb]
    · rw [if_neg hb, List.nil_append]
      refine Ev.step (f := fun k => impl_boxes.l0 k much acc (l + 1)) (fun k => ?_) (hnext acc (by omega))
      simp only [impl_boxes.l1]
      rw [if_neg hb, wrap_in (x := l + 1) (by omega) (by omega)]
theorem im_l0 (much : Int) : ∀ (d : Nat) (l : Int) (acc : List S31), 1 ≤ l → 60 < l + d → d ≤ 60 → acc.length + 4000 * d ≤ 400000 → Ev (fun k => impl_boxes.l0 k much acc l) (acc ++ lngs S31.mk pap much d l) := by
  intro d
  induction d with
  | zero =>
    intro l acc h1 h2 h3 h4
    rw [lngs, List.append_nil]
    refine Ev.step (f := fun _ => some acc) (fun k => ?_) (Ev.now _)
    simp only [impl_boxes.l0]
    rw [if_neg (by omega)]
  | succ d ih =>
    intro l acc h1 h2 h3 h4
    rw [lngs]
    by_cases hl : l ≤ 60
    · rw [if_pos hl]
      have := im_l1 much l ⟨h1, hl⟩ acc.length (by omega) (lngs S31.mk pap much d (l + 1)) (fun acc' ha => ih (l + 1) acc' (by omega) (by omega) (by omega) (by omega)) 60 1 acc (by omega) (by omega) (by omega) (by omega) (by omega)
      refine Ev.step (f := fun k => impl_boxes.l1 k much acc l 1) (fun k => ?_) this
      simp only [impl_boxes.l0]
      rw [if_pos hl]
    · rw [if_neg hl, List.append_nil]
      refine Ev.step (f := fun _ => some acc) (fun k => ?_) (Ev.now _)
      simp only [impl_boxes.l0]
      rw [if_neg hl]
/-- All boxes of which the measure is so much. -/
def bxs (much : Int) : List S31 := lngs S31.mk pap much 60 1
theorem bxs_length (much : Int) : (bxs much).length ≤ 216000 := by
  have h := lngs_length S31.mk pap much 60 1
  unfold bxs
  omega
theorem boxes_ev (much : Int) : Ev (fun k => impl_boxes.f k much) (bxs much) := by
  have := im_l0 much 60 1 [] (by omega) (by omega) (by omega) (by simp)
  rw [List.nil_append] at this
  exact Ev.congr (fun k => rfl) this

theorem sp_l2 (much : Int) (l b : Int) (hl : 1 ≤ l ∧ l ≤ 60) (hb : 1 ≤ b ∧ b ≤ 60) (B : Nat) (hB : B ≤ 1000000) (rest : List S31) (r : Bool)
    (hnext : ∀ acc : List S31, acc.length ≤ B + 60 → Ev (fun k => spec_BoxesByPaper.l1 k much acc l (b + 1)) (acc ++ rest, r)) :
    ∀ (d : Nat) (i : Int) (acc : List S31), 1 ≤ i → i ≤ 61 → b < i + d → d ≤ 60 → acc.length + d ≤ B + 60 → Ev (fun k => spec_BoxesByPaper.l2 k much acc l b i) (acc ++ (tals S31.mk pap much l b d i ++ rest), r) := by
  intro d
  induction d with
  | zero =>
    intro i acc h1 h2 h3 h4 h5
    rw [tals, List.nil_append]
    refine Ev.step (f := fun k => spec_BoxesByPaper.l1 k much acc l (b + 1)) (fun k => ?_) (hnext acc (by omega))
    simp only [spec_BoxesByPaper.l2]
    rw [if_neg (by omega), wrap_in (x := b + 1) (by omega) (by omega)]
  | succ d ih =>
    intro i acc h1 h2 h3 h4 h5
    rw [tals]
    by_cases hi : i ≤ b
    · rw [if_pos hi]
      have hm : spec_wrPaper.f l b i = some (pap l b i) := by unfold spec_wrPaper.f; rw [pap_wr (by omega) (by omega) (by omega)]
      by_cases e : pap l b i = much
      · rw [if_pos e]
        have := ih (i + 1) (acc ++ [⟨l, b, i⟩]) (by omega) (by omega) (by omega) (by omega) (by simp; omega)
        rw [List.append_assoc, List.singleton_append] at this
        refine Ev.step (f := fun k => spec_BoxesByPaper.l2 k much (acc ++ [⟨l, b, i⟩]) l b (i + 1)) (fun k => ?_) this
        simp only [spec_BoxesByPaper.l2, hm, Option.bind_some]
        rw [if_pos hi, if_pos e, if_pos (by omega), wrap_in (x := i + 1) (by omega) (by omega)]
      · rw [if_neg e]
        refine Ev.step (f := fun k => spec_BoxesByPaper.l2 k much acc l b (i + 1)) (fun k => ?_) (ih (i + 1) acc (by omega) (by omega) (by omega) (by omega) (by omega))
        simp only [spec_BoxesByPaper.l2, hm, Option.bind_some]
        rw [if_pos hi, if_neg e, wrap_in (x := i + 1) (by omega) (by omega)]
    · rw [if_neg hi, List.nil_append]
      refine Ev.step (f := fun k => spec_BoxesByPaper.l1 k much acc l (b + 1)) (fun k => ?_) (hnext acc (by omega))
      simp only [spec_BoxesByPaper.l2]
      rw [if_neg hi, wrap_in (x := b + 1) (by omega) (by omega)]
theorem sp_l1 (much : Int) (l : Int) (hl : 1 ≤ l ∧ l ≤ 60) (B : Nat) (hB : B ≤ 900000) (rest : List S31) (r : Bool)
    (hnext : ∀ acc : List S31, acc.length ≤ B + 3660 → Ev (fun k => spec_BoxesByPaper.l0 k much acc (l + 1)) (acc ++ rest, r)) :
    ∀ (d : Nat) (b : Int) (acc : List S31), 1 ≤ b → b ≤ 61 → l < b + d → d ≤ 60 → acc.length + 60 * d ≤ B + 3600 → Ev (fun k => spec_BoxesByPaper.l1 k much acc l b) (acc ++ (brds S31.mk pap much l d b ++ rest), r) := by
  intro d
  induction d with
  | zero =>
    intro b acc h1 h2 h3 h4 h5
    rw [brds, List.nil_append]
    refine Ev.step (f := fun k => spec_BoxesByPaper.l0 k much acc (l + 1)) (fun k => ?_) (hnext acc (by omega))
    simp only [spec_BoxesByPaper.l1]
    rw [if_neg (by omega), wrap_in (x := l + 1) (by omega) (by omega)]
  | succ d ih =>
    intro b acc h1 h2 h3 h4 h5
    rw [brds]
    by_cases hb : b ≤ l
    · rw [if_pos hb]
      have := sp_l2 much l b hl (by omega) (acc.length) (by omega) (brds S31.mk pap much l d (b + 1) ++ rest) r (fun acc' ha => ih (b + 1) acc' (by omega) (by omega) (by omega) (by omega) (by omega)) 60 1 acc (by omega) (by omega) (by omega) (by omega) (by omega)
      rw [← List.append_assoc (tals S31.mk pap much l b 60 1)] at this
      refine Ev.step (f := fun k => spec_BoxesByPaper.l2 k much acc l b 1) (fun k => ?_) this
      simp only [spec_BoxesByPaper.l1]
      rw [if_pos hb]
    · rw [if_neg hb, List.nil_append]
      refine Ev.step (f := fun k => spec_BoxesByPaper.l0 k much acc (l + 1)) (fun k => ?_) (hnext acc (by omega))
      simp only [spec_BoxesByPaper.l1]
      rw [if_neg hb, wrap_in (x := l + 1) (by omega) (by omega)]
theorem sp_l0 (much : Int) : ∀ (d : Nat) (l : Int) (acc : List S31), 1 ≤ l → 60 < l + d → d ≤ 60 → acc.length + 4000 * d ≤ 400000 → Ev (fun k => spec_BoxesByPaper.l0 k much acc l) (acc ++ lngs S31.mk pap much d l, true) := by
  intro d
  induction d with
  | zero =>
    intro l acc h1 h2 h3 h4
    rw [lngs, List.append_nil]
    refine Ev.step (f := fun _ => some (acc, true)) (fun k => ?_) (Ev.now _)
    simp only [spec_BoxesByPaper.l0]
    rw [if_neg (by omega)]
  | succ d ih =>
    intro l acc h1 h2 h3 h4
    rw [lngs]
    by_cases hl : l ≤ 60
    · rw [if_pos hl]
      have := sp_l1 much l ⟨h1, hl⟩ acc.length (by omega) (lngs S31.mk pap much d (l + 1)) true (fun acc' ha => ih (l + 1) acc' (by omega) (by omega) (by omega) (by omega)) 60 1 acc (by omega) (by omega) (by omega) (by omega) (by omega)
      refine Ev.step (f := fun k => spec_BoxesByPaper.l1 k much acc l 1) (fun k => ?_) this
      simp only [spec_BoxesByPaper.l0]
      rw [if_pos hl]
    · rw [if_neg hl, List.append_nil]
      refine Ev.step (f := fun _ => some (acc, true)) (fun k => ?_) (Ev.now _)
      simp only [spec_BoxesByPaper.l0]
      rw [if_neg hl]
theorem l1In_eq (a lo hi : Int) : spec_l1In.f a lo hi = some (decide (lo ≤ a ∧ a ≤ hi)) := by
  unfold spec_l1In.f
  by_cases h : a ≥ lo
  · simp [h]
  · simp [h]
theorem within_eq (a lo hi : Int) : impl_within.f a lo hi = some (decide (lo ≤ a ∧ a ≤ hi)) := by
  unfold impl_within.f
  by_cases h : lo ≤ a
  · simp [h]
  · simp [h]
def pres (a : Int) : List S31 × Bool := if 6 ≤ a ∧ a ≤ 500 then (bxs a, true) else ([], false)
theorem pres_length (a : Int) : (pres a).1.length ≤ 4000000 := by
  have := bxs_length a
  unfold pres
  split
  · simp only; omega
  · simp
theorem spec_pres (a : Int) : Ev (fun k => spec_BoxesByPaper.f k a) (pres a) := by
  unfold pres
  by_cases h : 6 ≤ a ∧ a ≤ 500
  · rw [if_pos h]
    have := sp_l0 a 60 1 [] (by omega) (by omega) (by omega) (by simp)
    rw [List.nil_append] at this
    simp only [spec_BoxesByPaper.f, l1In_eq, decide_eq_true h, Option.bind_some, if_true]
    exact this
  · rw [if_neg h]
    simp only [spec_BoxesByPaper.f, l1In_eq, decide_eq_false h, Option.bind_some, Bool.false_eq_true, if_false]
    exact Ev.now _
theorem impl_pres (a : Int) : Ev (fun k => impl_BoxesByPaper.f k a) (pres a) := by
  unfold pres
  by_cases h : 6 ≤ a ∧ a ≤ 500
  · rw [if_pos h]
    simp only [impl_BoxesByPaper.f, within_eq, decide_eq_true h, Option.bind_some, if_true]
    exact Ev.bind (boxes_ev a) (Ev.now _)
  · rw [if_neg h]
    simp only [impl_BoxesByPaper.f, within_eq, decide_eq_false h, Option.bind_some, Bool.false_eq_true, if_false]
    exact Ev.now _

end Go.Proofs.Ytolfcknnjggchaa.PBoxesP
