/- Plain facts on the best of a list of boxes, of the printed functions. Conditions: as each law states them. -/
import Derived.Test.YtolfcknnjggchaaPBx4
import Derived.Test.YtolfcknnjggchaaPBoxesB
namespace Go.Proofs.Ytolfcknnjggchaa.PBestB
open Go.RowKit Go.Proofs.Ytolfcknnjggchaa.PB Go.Proofs.YtolfcknnjggchaaW.PrintWords Go.Proofs.YtolfcknnjggchaaW.PrintLast Go.Proofs.Ytolfcknnjggchaa.PEv Go.Proofs.Ytolfcknnjggchaa.PBx Go.Proofs.Ytolfcknnjggchaa.PBoxesB
set_option linter.unusedSimpArgs false
set_option maxRecDepth 100000
set_option linter.unusedVariables false

def papx (x : S31) : Int := pap x.f0 x.f1 x.f2
def okx (x : S31) : Prop := (1 ≤ x.f0 ∧ x.f0 ≤ 60) ∧ (1 ≤ x.f1 ∧ x.f1 ≤ 60) ∧ (1 ≤ x.f2 ∧ x.f2 ≤ 60)
theorem tals_mem {m : Int → Int → Int → Int} {much l b : Int} {x : S31} : ∀ (d : Nat) (i : Int), x ∈ tals S31.mk m much l b d i → ∃ j, i ≤ j ∧ j ≤ b ∧ x = ⟨l, b, j⟩
  | 0, _, h => by simp [tals] at h
  | d + 1, i, h => by
    rw [tals] at h
    split at h
    · split at h
      · rcases List.mem_cons.1 h with rfl | h
        · exact ⟨i, Int.le_refl _, by assumption, rfl⟩
        · obtain ⟨j, h1, h2, h3⟩ := tals_mem d (i + 1) h
          exact ⟨j, by omega, h2, h3⟩
      · obtain ⟨j, h1, h2, h3⟩ := tals_mem d (i + 1) h
        exact ⟨j, by omega, h2, h3⟩
    · simp at h
theorem brds_mem {m : Int → Int → Int → Int} {much l : Int} {x : S31} : ∀ (d : Nat) (b : Int), 1 ≤ b → x ∈ brds S31.mk m much l d b → ∃ b' j, 1 ≤ b' ∧ b' ≤ l ∧ 1 ≤ j ∧ j ≤ b' ∧ x = ⟨l, b', j⟩
  | 0, _, _, h => by simp [brds] at h
  | d + 1, b, hb, h => by
    rw [brds] at h
    split at h
    · rename_i hbl
      rcases List.mem_append.1 h with h | h
      · obtain ⟨j, h1, h2, h3⟩ := tals_mem 60 1 h
        exact ⟨b, j, hb, hbl, h1, h2, h3⟩
      · exact brds_mem d (b + 1) (by omega) h
    · simp at h
theorem lngs_mem {m : Int → Int → Int → Int} {much : Int} {x : S31} : ∀ (d : Nat) (l : Int), 1 ≤ l → x ∈ lngs S31.mk m much d l → okx x
  | 0, _, _, h => by simp [lngs] at h
  | d + 1, l, hl, h => by
    rw [lngs] at h
    split at h
    · rcases List.mem_append.1 h with h | h
      · obtain ⟨b', j, h1, h2, h3, h4, rfl⟩ := brds_mem 60 1 (Int.le_refl _) h
        unfold okx
        simp only
        omega
      · exact lngs_mem d (l + 1) (by omega) h
    · simp at h
theorem bxs_ok (much : Int) : ∀ x ∈ bxs much, okx x := fun x hx => lngs_mem 60 1 (by omega) hx
theorem papx_in {x : S31} (h : okx x) : 1 ≤ papx x ∧ papx x ≤ 100000 := by
  unfold okx at h
  have h1 := mul_in (x := x.f0) (y := x.f1) (M := 60) (by omega) (by omega) (by omega) (by omega)
  have h2 := mul_in (x := x.f0) (y := x.f2) (M := 60) (by omega) (by omega) (by omega) (by omega)
  have h3 := mul_in (x := x.f1) (y := x.f2) (M := 60) (by omega) (by omega) (by omega) (by omega)
  have h4 : 0 < x.f0 * x.f1 := Int.mul_pos (by omega) (by omega)
  unfold papx pap
  omega
theorem wrPaper_eq {x : S31} (h : okx x) : spec_wrPaper.f x.f0 x.f1 x.f2 = some (papx x) := by
  unfold okx at h
  unfold spec_wrPaper.f papx
  rw [pap_wr (by omega) (by omega) (by omega)]
theorem paper_eq {x : S31} (h : okx x) : impl_Box_paper.f x.f0 x.f1 x.f2 = some (papx x) := by
  unfold okx at h
  unfold impl_Box_paper.f papx
  rw [pap_wr (by omega) (by omega) (by omega)]
theorem cmp_eq {x y : S31} (hx : okx x) (hy : okx y) : impl_best_f1.f x.f0 x.f1 x.f2 y.f0 y.f1 y.f2 = some (papx x - papx y) := by
  have h1 := papx_in hx
  have h2 := papx_in hy
  unfold impl_best_f1.f
  rw [paper_eq hx, paper_eq hy]
  simp only [Option.bind_some]
  rw [wrap_in (by omega) (by omega)]
/-- The first one with the least paper. -/
def lst : S31 → List S31 → S31
  | b, [] => b
  | b, x :: r => lst (if papx x < papx b then x else b) r
theorem lst_ok : ∀ (l : List S31) (b : S31), okx b → (∀ x ∈ l, okx x) → okx (lst b l)
  | [], b, h, _ => h
  | x :: r, b, h, hl => lst_ok r _ (by split; exact hl x (by simp); exact h) (fun y hy => hl y (by simp [hy]))
theorem im_go (l : List S31) (hl : l.length ≤ 1000000) (hok : ∀ x ∈ l, okx x) : ∀ (d i : Nat) (b : S31), okx b → i ≤ l.length → l.length - i = d → Ev (fun k => impl_Box.l0 k l (i : Int) b.f0 b.f1 b.f2) ((lst b (l.drop i)).f0, (lst b (l.drop i)).f1, (lst b (l.drop i)).f2) := by
  intro d
  induction d with
  | zero =>
    intro i b hb h1 h2
    rw [List.drop_of_length_le (by omega), lst]
    refine Ev.step (f := fun _ => some (b.f0, b.f1, b.f2)) (fun k => ?_) (Ev.now _)
    simp only [impl_Box.l0]
    rw [if_neg (by omega)]
  | succ d ih =>
    intro i b hb h1 h2
    have hi : i < l.length := by omega
    have er : rd_T31 l (i : Int) = l[i] := by simp [rd_T31, List.getD_eq_getElem?_getD, hi]
    have hx := hok _ (List.getElem_mem hi)
    rw [List.drop_eq_getElem_cons hi, lst]
    by_cases hc : papx l[i] < papx b
    · rw [if_pos hc]
      refine Ev.step (f := fun k => impl_Box.l0 k l ((i + 1 : Nat) : Int) l[i].f0 l[i].f1 l[i].f2) (fun k => ?_) (ih (i + 1) l[i] hx (by omega) (by omega))
      simp only [impl_Box.l0]
      rw [if_pos (by omega), if_pos (by omega), er, cmp_eq hx hb, wrap_in (x := (i : Int) + 1) (by omega) (by omega)]
      simp only [Option.bind_some]
      rw [if_pos (by omega)]
      rfl
    · rw [if_neg hc]
      refine Ev.step (f := fun k => impl_Box.l0 k l ((i + 1 : Nat) : Int) b.f0 b.f1 b.f2) (fun k => ?_) (ih (i + 1) b hb (by omega) (by omega))
      simp only [impl_Box.l0]
      rw [if_pos (by omega), if_pos (by omega), er, cmp_eq hx hb, wrap_in (x := (i : Int) + 1) (by omega) (by omega)]
      simp only [Option.bind_some]
      rw [if_neg (by omega)]
      rfl
theorem sp_go (l : List S31) (hl : l.length ≤ 1000000) (hok : ∀ x ∈ l, okx x) : ∀ (d i : Nat) (b : S31), okx b → i ≤ l.length → l.length - i = d → Ev (fun k => spec_wrBest.l0 k (papx b) l (l.length : Int) (i : Int) b.f0 b.f1 b.f2) ((lst b (l.drop i)).f0, (lst b (l.drop i)).f1, (lst b (l.drop i)).f2, papx (lst b (l.drop i))) := by
  intro d
  induction d with
  | zero =>
    intro i b hb h1 h2
    rw [List.drop_of_length_le (by omega), lst]
    refine Ev.step (f := fun _ => some (b.f0, b.f1, b.f2, papx b)) (fun k => ?_) (Ev.now _)
    simp only [spec_wrBest.l0]
    rw [if_neg (by omega)]
  | succ d ih =>
    intro i b hb h1 h2
    have hi : i < l.length := by omega
    have er : rd_T31 l (i : Int) = l[i] := by simp [rd_T31, List.getD_eq_getElem?_getD, hi]
    have hx := hok _ (List.getElem_mem hi)
    have hbp := papx_in hb
    rw [List.drop_eq_getElem_cons hi, lst]
    by_cases hc : papx l[i] < papx b
    · rw [if_pos hc]
      refine Ev.step (f := fun k => spec_wrBest.l0 k (papx l[i]) l (l.length : Int) ((i + 1 : Nat) : Int) l[i].f0 l[i].f1 l[i].f2) (fun k => ?_) (ih (i + 1) l[i] hx (by omega) (by omega))
      simp only [spec_wrBest.l0]
      rw [if_pos (by omega), if_pos (by omega), if_pos (by omega), er, wrPaper_eq hx, wrap_in (x := (i : Int) + 1) (by omega) (by omega)]
      simp only [Option.bind_some]
      rw [if_neg (by omega), if_pos hc]
      rfl
    · rw [if_neg hc]
      refine Ev.step (f := fun k => spec_wrBest.l0 k (papx b) l (l.length : Int) ((i + 1 : Nat) : Int) b.f0 b.f1 b.f2) (fun k => ?_) (ih (i + 1) b hb (by omega) (by omega))
      simp only [spec_wrBest.l0]
      rw [if_pos (by omega), if_pos (by omega), if_pos (by omega), er, wrPaper_eq hx, wrap_in (x := (i : Int) + 1) (by omega) (by omega)]
      simp only [Option.bind_some]
      rw [if_neg (by omega), if_neg hc]
      rfl
/-- The best of a list, and its paper. -/
def wb : List S31 → Int × Int × Int × Int
  | [] => (0, 0, 0, 0)
  | x :: r => ((lst x r).f0, (lst x r).f1, (lst x r).f2, papx (lst x r))
theorem wrBest_ev (l : List S31) (hl : l.length ≤ 1000000) (hok : ∀ x ∈ l, okx x) : Ev (fun k => spec_wrBest.f k l) (wb l) := by
  cases l with
  | nil =>
    refine Ev.congr (fun k => rfl) (Ev.step (g := fun k => spec_wrBest.l0 k 0 [] 0 0 0 0 0) (f := fun _ => some (0, 0, 0, 0)) (fun k => ?_) (Ev.now _))
    simp only [spec_wrBest.l0]
    rw [if_neg (by omega)]
  | cons x r =>
    have hx := hok x (by simp)
    have := sp_go (x :: r) hl hok _ 1 x hx (by simp) rfl
    rw [List.drop_one, List.tail_cons] at this
    refine Ev.congr (fun k => rfl) (Ev.step (g := fun k => spec_wrBest.l0 k 0 (x :: r) ((x :: r).length : Int) 0 0 0 0) (f := fun k => spec_wrBest.l0 k (papx x) (x :: r) ((x :: r).length : Int) ((1 : Nat) : Int) x.f0 x.f1 x.f2) (fun k => ?_) this)
    have er : rd_T31 (x :: r) 0 = x := rfl
    simp only [spec_wrBest.l0]
    rw [if_pos (by first | (simp; done) | (simp; omega)), if_pos (by omega), if_pos (by first | (simp; done) | (simp; omega)), er, wrPaper_eq hx, wrap_in (x := (0 : Int) + 1) (by omega) (by omega)]
    simp only [Option.bind_some, if_true]
    rfl
def ib (l : List S31) : Int × Int × Int × Bool := ((wb l).1, (wb l).2.1, (wb l).2.2.1, !l.isEmpty)
theorem best_ev (l : List S31) (hl : l.length ≤ 1000000) (hok : ∀ x ∈ l, okx x) : Ev (fun k => impl_best.f k l) (ib l) := by
  cases l with
  | nil =>
    refine Ev.congr (fun k => ?_) (Ev.now _)
    unfold impl_best.f
    rw [if_pos (show (([] : List S31).length : Int) = 0 from rfl)]
    rfl
  | cons x r =>
    have hx := hok x (by simp)
    have := im_go (x :: r) hl hok _ 1 x hx (by simp) rfl
    rw [List.drop_one, List.tail_cons] at this
    have hj : Ev (fun k => impl_Box.f k (x :: r)) ((lst x r).f0, (lst x r).f1, (lst x r).f2) := by
      refine Ev.congr (fun k => ?_) (Ev.step (g := fun k => impl_Box.j0 k (x :: r)) (f := fun k => impl_Box.l0 k (x :: r) ((1 : Nat) : Int) x.f0 x.f1 x.f2) (fun k => ?_) this)
      · unfold impl_Box.f
        rw [if_neg (by first | (simp; done) | (simp; omega))]
      · simp only [impl_Box.j0]
        rw [if_pos (by first | (simp; done) | (simp; omega))]
        rfl
    refine Ev.congr (fun k => ?_) (Ev.bind (f := _) hj (Ev.now _) : Ev (fun k => (impl_Box.f k (x :: r)).bind fun bt => some (bt.1, bt.2.1, bt.2.2, true)) _)
    unfold impl_best.f
    rw [if_neg (by first | (simp; done) | (simp; omega))]
theorem wb_pos (l : List S31) (hok : ∀ x ∈ l, okx x) : decide ((wb l).2.2.2 > 0) = !l.isEmpty ∧ (l = [] → (wb l).2.2.2 = 0) ∧ (l ≠ [] → 0 < (wb l).2.2.2 ∧ (wb l).2.2.2 ≤ 100000) := by
  cases l with
  | nil => simp [wb]
  | cons x r =>
    have h := papx_in (lst_ok r x (hok x (by simp)) (fun y hy => hok y (by simp [hy])))
    refine ⟨?_, fun e => by simp at e, fun _ => ?_⟩
    · exact decide_eq_true (show (wb (x :: r)).2.2.2 > 0 by simp only [wb]; omega)
    · simp only [wb]; omega
theorem ib_paper (l : List S31) (hok : ∀ x ∈ l, okx x) : impl_Box_paper.f (ib l).1 (ib l).2.1 (ib l).2.2.1 = some (wb l).2.2.2 := by
  cases l with
  | nil => show impl_Box_paper.f 0 0 0 = some 0; unfold impl_Box_paper.f; rw [pap_wr (by omega) (by omega) (by omega)]; rfl
  | cons x r => exact paper_eq (lst_ok r x (hok x (by simp)) (fun y hy => hok y (by simp [hy])))
end Go.Proofs.Ytolfcknnjggchaa.PBestB
