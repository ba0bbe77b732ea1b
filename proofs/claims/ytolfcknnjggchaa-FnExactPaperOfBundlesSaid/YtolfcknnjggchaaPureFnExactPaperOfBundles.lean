/- The law FnExactPaperOfBundles, of the printed functions alone. Conditions: as each law states them. -/
import Derived.Test.YtolfcknnjggchaaPPapers
import Derived.Test.YtolfcknnjggchaaPCopy
import Derived.Test.YtolfcknnjggchaaPInt
namespace Go.Proofs.Ytolfcknnjggchaa.Pure
open Go.RowKit Go.Proofs.Ytolfcknnjggchaa.PB Go.Proofs.YtolfcknnjggchaaW.PrintWords Go.Proofs.YtolfcknnjggchaaW.PrintLast Go.Proofs.Ytolfcknnjggchaa.PEv Go.Proofs.Ytolfcknnjggchaa.PBx Go.Proofs.Ytolfcknnjggchaa.PBoxesB Go.Proofs.Ytolfcknnjggchaa.PBestB Go.Proofs.Ytolfcknnjggchaa.PPapers Go.Proofs.Ytolfcknnjggchaa.PCopy
set_option linter.unusedSimpArgs false
set_option maxRecDepth 100000
set_option linter.unusedVariables false

namespace XPap
theorem l1In_eq (a lo hi : Int) : spec_l1In.f a lo hi = some (decide (lo ≤ a ∧ a ≤ hi)) := by
  unfold spec_l1In.f
  by_cases h : a ≥ lo
  · simp [h]
  · simp [h]
def inS (x : Int) : Bool := decide (1 ≤ x ∧ x ≤ 60)
theorem all_go (l : List Int) (hl : l.length ≤ 4000000) : ∀ (d i : Nat), i ≤ l.length → l.length - i = d → Ev (fun k => spec_l1All.l0 k 1 60 l (l.length : Int) (i : Int)) ((l.drop i).all inS) := by
  intro d
  induction d with
  | zero =>
    intro i h1 h2
    rw [List.drop_of_length_le (by omega)]
    refine Ev.step (f := fun _ => some true) (fun k => ?_) (Ev.now _)
    simp only [spec_l1All.l0]
    rw [if_neg (by omega)]
  | succ d ih =>
    intro i h1 h2
    have hi : i < l.length := by omega
    have er : rd l (i : Int) = l[i] := by simp [rd, List.getD_eq_getElem?_getD, hi]
    rw [List.drop_eq_getElem_cons hi, List.all_cons]
    cases e : inS l[i] with
    | false =>
      rw [Bool.false_and]
      refine Ev.step (f := fun _ => some false) (fun k => ?_) (Ev.now _)
      simp only [spec_l1All.l0]
      rw [if_pos (by omega), if_pos (by omega), if_pos (by omega), er, l1In_eq, show decide (1 ≤ l[i] ∧ l[i] ≤ 60) = false from e]
      rfl
    | true =>
      rw [Bool.true_and]
      refine Ev.step (f := fun k => spec_l1All.l0 k 1 60 l (l.length : Int) ((i + 1 : Nat) : Int)) (fun k => ?_) (ih (i + 1) (by omega) (by omega))
      simp only [spec_l1All.l0]
      rw [if_pos (by omega), if_pos (by omega), if_pos (by omega), er, l1In_eq, show decide (1 ≤ l[i] ∧ l[i] ≤ 60) = true from e, wrap_in (x := (i : Int) + 1) (by omega) (by omega)]
      rfl
theorem within_all (l : List Int) : impl_areWithin.f l 1 60 = some (l.all inS) := by
  have : ∀ m : List Int, (!(m.any fun x => !decide ((1 : Int) ≤ x ∧ x ≤ 60))) = m.all inS := by
    intro m
    induction m with
    | nil => rfl
    | cons x r ih =>
      rw [List.any_cons, List.all_cons, ← ih, Bool.not_or, Bool.not_not]
      rfl
  unfold impl_areWithin.f
  rw [this]
theorem all_mem {l : List Int} (h : l.all inS = true) (i : Nat) (hi : i < l.length) : 1 ≤ l[i] ∧ l[i] ≤ 60 := by
  rw [List.all_eq_true] at h
  have := h l[i] (List.getElem_mem hi)
  unfold inS at this
  exact of_decide_eq_true this
def tot (s : Int) : Int → List Int → Int
  | acc, [] => acc
  | acc, x :: r => tot s (acc + (ppr x + s)) r
theorem sp_go (l : List Int) (hl : l.length ≤ 60) (hall : l.all inS = true) (s : Int) (hs : 0 ≤ s ∧ s ≤ 60) : ∀ (d i : Nat) (acc : Int), i ≤ l.length → l.length - i = d → 0 ≤ acc → acc ≤ 200000 * i → Ev (fun k => spec_PaperOfBundles.l0 k acc (seals s) l (l.length : Int) (i : Int)) (tot s acc (l.drop i), true) := by
  have hlen := seals_length s
  intro d
  induction d with
  | zero =>
    intro i acc h1 h2 h3 h4
    rw [List.drop_of_length_le (by omega), tot]
    refine Ev.step (f := fun _ => some (acc, true)) (fun k => ?_) (Ev.now _)
    simp only [spec_PaperOfBundles.l0]
    rw [if_neg (by omega)]
  | succ d ih =>
    intro i acc h1 h2 h3 h4
    have hi : i < l.length := by omega
    have er : rd l (i : Int) = l[i] := by simp [rd, List.getD_eq_getElem?_getD, hi]
    have hx := all_mem hall i hi
    have hp := ppr_in l[i] hx
    have hsl := seals_at s l[i] hx
    rw [List.drop_eq_getElem_cons hi, tot]
    refine Ev.step (f := fun k => spec_PaperOfBundles.l0 k (acc + (ppr l[i] + s)) (seals s) l (l.length : Int) ((i + 1 : Nat) : Int)) (fun k => ?_) (ih (i + 1) (acc + (ppr l[i] + s)) (by omega) (by omega) (by omega) (by omega))
    simp only [spec_PaperOfBundles.l0]
    rw [if_pos (by omega), if_pos (by omega), if_pos (by omega), er, if_pos (by omega), if_pos (by omega), hsl, if_neg (by omega), wrap_in (x := acc + (ppr l[i] + s)) (by omega) (by omega), wrap_in (x := (i : Int) + 1) (by omega) (by omega)]
    rfl
theorem im_go (l : List Int) (hl : l.length ≤ 60) (hall : l.all inS = true) (s : Int) (hs : 0 ≤ s ∧ s ≤ 60) : ∀ (d i : Nat) (acc : Int), i ≤ l.length → l.length - i = d → 0 ≤ acc → acc ≤ 200000 * i → Ev (fun k => impl_PaperOfBundles.l0 k s paps acc l (l.length : Int) (i : Int)) (tot s acc (l.drop i), true) := by
  have hlen := paps_length
  intro d
  induction d with
  | zero =>
    intro i acc h1 h2 h3 h4
    rw [List.drop_of_length_le (by omega), tot]
    refine Ev.step (f := fun _ => some (acc, true)) (fun k => ?_) (Ev.now _)
    simp only [impl_PaperOfBundles.l0]
    rw [if_neg (by omega)]
  | succ d ih =>
    intro i acc h1 h2 h3 h4
    have hi : i < l.length := by omega
    have er : rd l (i : Int) = l[i] := by simp [rd, List.getD_eq_getElem?_getD, hi]
    have hx := all_mem hall i hi
    have hp := ppr_in l[i] hx
    have hsl := paps_at l[i] hx
    rw [List.drop_eq_getElem_cons hi, tot]
    refine Ev.step (f := fun k => impl_PaperOfBundles.l0 k s paps (acc + (ppr l[i] + s)) l (l.length : Int) ((i + 1 : Nat) : Int)) (fun k => ?_) (ih (i + 1) (acc + (ppr l[i] + s)) (by omega) (by omega) (by omega) (by omega))
    simp only [impl_PaperOfBundles.l0]
    rw [if_pos (by omega), if_pos (by omega), if_pos (by omega), er, if_pos (by omega), if_pos (by omega), hsl, wrap_in (x := ppr l[i] + s) (by omega) (by omega), wrap_in (x := acc + (ppr l[i] + s)) (by omega) (by omega), wrap_in (x := (i : Int) + 1) (by omega) (by omega)]
    rfl
def good (l : List Int) (s : Int) : Prop := (1 ≤ (l.length : Int) ∧ (l.length : Int) ≤ 60) ∧ l.all inS = true ∧ (0 ≤ s ∧ s ≤ 60)
instance (l : List Int) (s : Int) : Decidable (good l s) := by unfold good; infer_instance
def pob (l : List Int) (s : Int) : Int × Bool := if good l s then (tot s 0 l, true) else (0, false)
theorem spec_pob (l : List Int) (hl : l.length ≤ 4000000) (s : Int) : Ev (fun k => spec_PaperOfBundles.f k l s) (pob l s) := by
  have hno : Ev (fun k => spec_PaperOfBundles.j0 k l s true) ((0, false) : Int × Bool) := Ev.step (f := fun _ => some (0, false)) (fun k => by simp only [spec_PaperOfBundles.j0]; rw [if_pos trivial]) (Ev.now _)
  unfold pob
  simp only [spec_PaperOfBundles.f, l1In_eq, Option.bind_some]
  by_cases h1 : 1 ≤ (l.length : Int) ∧ (l.length : Int) ≤ 60
  · simp only [decide_eq_true h1, if_true]
    refine Ev.bind (Ev.congr (fun k => rfl) (all_go l hl l.length 0 (by omega) (by omega)) : Ev (fun k => spec_l1All.f k l 1 60) (l.all inS)) ?_
    cases h2 : l.all inS with
    | false =>
      rw [if_neg (fun g => by have := g.2.1; rw [h2] at this; cases this)]
      exact neg (by simp) hno
    | true =>
      refine pos rfl ?_
      by_cases h3 : 0 ≤ s ∧ s ≤ 60
      · rw [if_pos (show good l s from ⟨h1, h2, h3⟩)]
        simp only [decide_eq_true h3]
        have := sp_go l (by omega) h2 s h3 l.length 0 0 (by omega) (by omega) (by omega) (by omega)
        refine Ev.step (f := fun k => (spec_wrSealed.f k s).bind fun t => spec_PaperOfBundles.l0 k 0 t l (l.length : Int) 0) (fun k => ?_) (Ev.bind (sealed_ev s h3) this)
        simp only [spec_PaperOfBundles.j0]
        rw [if_neg (by simp)]
      · rw [if_neg (fun g => h3 g.2.2)]
        simp only [decide_eq_false h3]
        exact hno
  · rw [if_neg (fun g => h1 g.1)]
    simp only [decide_eq_false h1, Bool.false_eq_true, if_false]
    exact hno
theorem isOver_eq (s : Int) : impl_isOver.f s = some (decide (0 ≤ s ∧ s ≤ 60)) := by
  unfold impl_isOver.f
  rw [within_eq]
  rfl
theorem impl_pob (l : List Int) (s : Int) : Ev (fun k => impl_PaperOfBundles.f k l s) (pob l s) := by
  have hno : Ev (fun k => impl_PaperOfBundles.j0 k l s true) ((0, false) : Int × Bool) := Ev.step (f := fun _ => some (0, false)) (fun k => by simp only [impl_PaperOfBundles.j0]; rw [if_pos trivial]) (Ev.now _)
  unfold pob
  simp only [impl_PaperOfBundles.f, within_eq, within_all, isOver_eq, Option.bind_some]
  by_cases h1 : 1 ≤ (l.length : Int) ∧ (l.length : Int) ≤ 60
  · simp only [decide_eq_true h1, if_true]
    cases h2 : l.all inS with
    | false =>
      rw [if_neg (fun g => by have := g.2.1; rw [h2] at this; cases this)]
      exact neg (by simp) hno
    | true =>
      refine pos rfl ?_
      by_cases h3 : 0 ≤ s ∧ s ≤ 60
      · rw [if_pos (show good l s from ⟨h1, h2, h3⟩)]
        simp only [decide_eq_true h3]
        have := im_go l (by omega) h2 s h3 l.length 0 0 (by omega) (by omega) (by omega) (by omega)
        refine Ev.step (f := fun k => (impl_papers.f k).bind fun t => impl_PaperOfBundles.l0 k s t 0 l (l.length : Int) 0) (fun k => ?_) (Ev.bind papers_ev this)
        simp only [impl_PaperOfBundles.j0]
        rw [if_neg (by simp)]
      · rw [if_neg (fun g => h3 g.2.2)]
        simp only [decide_eq_false h3]
        exact hno
  · rw [if_neg (fun g => h1 g.1)]
    simp only [decide_eq_false h1, Bool.false_eq_true, if_false]
    exact hno
end XPap
theorem FnExactPaperOfBundles : laws_FnExactPaperOfBundles.Pure := by
  intro l s _ _ _ _
  refine Ev.rounds (r := true) ?_
  unfold laws_FnExactPaperOfBundles.f
  by_cases hl : (l.length : Int) > 1048576
  · exact pos hl (Ev.now _)
  · have hc := copy_ev l (by omega)
    refine neg hl (Ev.bind hc (Ev.bind (XPap.spec_pob l (by omega) s) (Ev.bind hc (Ev.bind (XPap.impl_pob l s) (pos rfl ?_)))))
    refine Ev.step (f := fun k => (laws_toIntS.f k l).bind fun t => (laws_eqIntS.f k l t).bind fun q => if q = true then some true else some false) (fun k => ?_) (Ev.bind hc (Ev.bind (PInt.eqS l (by omega)) (pos rfl (Ev.now _))))
    simp only [laws_FnExactPaperOfBundles.j0]
    rw [if_neg (by simp)]

end Go.Proofs.Ytolfcknnjggchaa.Pure
