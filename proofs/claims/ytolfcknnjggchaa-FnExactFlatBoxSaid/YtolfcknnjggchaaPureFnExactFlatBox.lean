/- The law FnExactFlatBox, of the printed functions alone. Conditions: as each law states them. -/
import Derived.Test.YtolfcknnjggchaaPMx6
import Derived.Test.YtolfcknnjggchaaPBest
namespace Go.Proofs.Ytolfcknnjggchaa.Pure
open Go.RowKit Go.Proofs.Ytolfcknnjggchaa.PM Go.Proofs.YtolfcknnjggchaaW.PrintWords Go.Proofs.YtolfcknnjggchaaW.PrintLast Go.Proofs.Ytolfcknnjggchaa.PEv Go.Proofs.Ytolfcknnjggchaa.PBx Go.Proofs.Ytolfcknnjggchaa.PBoxesM Go.Proofs.Ytolfcknnjggchaa.PBest
set_option linter.unusedSimpArgs false
set_option maxRecDepth 100000
set_option linter.unusedVariables false

def flat (l : List S31) : List S31 := l.filter (fun x => !decide (x.f2 > 1))
theorem flat_length (l : List S31) : (flat l).length ≤ l.length := List.length_filter_le _ _
theorem flat_ok (l : List S31) (h : ∀ x ∈ l, okx x) : ∀ x ∈ flat l, okx x := fun x hx => h x (List.mem_filter.1 hx).1
def fres (l : List S31) : Int × Int × Int × Bool := ((wb (flat l)).1, (wb (flat l)).2.1, (wb (flat l)).2.2.1, decide ((wb (flat l)).2.2.2 > 0))
theorem sp_flat (l : List S31) (hl : l.length ≤ 1000000) (hok : ∀ x ∈ l, okx x) : ∀ (d i : Nat) (acc : List S31), i ≤ l.length → l.length - i = d → acc.length ≤ i → acc ++ (l.drop i).filter (fun x => !decide (x.f2 > 1)) = flat l → Ev (fun k => spec_FlatBox.l0 k acc l (l.length : Int) (i : Int)) (fres l) := by
  intro d
  induction d with
  | zero =>
    intro i acc h1 h2 h3 h4
    rw [List.drop_of_length_le (by omega), List.filter_nil, List.append_nil] at h4
    subst h4
    have hw := wrBest_ev (flat l) (Nat.le_trans (flat_length l) hl) (flat_ok l hok)
    refine Ev.step (f := fun k => (spec_wrBest.f k (flat l)).bind fun bt => some (bt.1, bt.2.1, bt.2.2.1, decide (bt.2.2.2 > 0))) (fun k => ?_) (Ev.bind hw (Ev.now _))
    simp only [spec_FlatBox.l0]
    rw [if_neg (by omega)]
  | succ d ih =>
    intro i acc h1 h2 h3 h4
    have hi : i < l.length := by omega
    have er : rd_T31 l (i : Int) = l[i] := by simp [rd_T31, List.getD_eq_getElem?_getD, hi]
    have hx := hok _ (List.getElem_mem hi)
    unfold okx at hx
    rw [List.drop_eq_getElem_cons hi] at h4
    by_cases hc : l[i].f2 = 1
    · rw [List.filter_cons_of_pos (by simp [hc])] at h4
      refine Ev.step (f := fun k => spec_FlatBox.l0 k (acc ++ [l[i]]) l (l.length : Int) ((i + 1 : Nat) : Int)) (fun k => ?_) (ih (i + 1) (acc ++ [l[i]]) (by omega) (by omega) (by simp; omega) (by rw [List.append_assoc, List.singleton_append]; exact h4))
      simp only [spec_FlatBox.l0]
      rw [if_pos (by omega), if_pos (by omega), if_pos (by omega), er, if_pos hc, if_pos (by omega), wrap_in (x := (i : Int) + 1) (by omega) (by omega)]
      rfl
    · rw [List.filter_cons_of_neg (by simp; omega)] at h4
      refine Ev.step (f := fun k => spec_FlatBox.l0 k acc l (l.length : Int) ((i + 1 : Nat) : Int)) (fun k => ?_) (ih (i + 1) acc (by omega) (by omega) (by omega) h4)
      simp only [spec_FlatBox.l0]
      rw [if_pos (by omega), if_pos (by omega), if_pos (by omega), er, if_neg hc, wrap_in (x := (i : Int) + 1) (by omega) (by omega)]
      rfl
theorem FnExactFlatBox : laws_FnExactFlatBox.Pure := by
  intro a _
  refine Ev.rounds (r := true) ?_
  unfold laws_FnExactFlatBox.f
  have hs : Ev (fun k => spec_FlatBox.f k a) (fres (bres a).1) := by
    by_cases h : 1 ≤ a ∧ a ≤ 500
    · have hb : bres a = (bxs a, true) := by unfold bres; rw [if_pos h]
      rw [hb]
      simp only [spec_FlatBox.f, wrBars_eq, decide_eq_true h, Option.bind_some, if_true]
      refine Ev.bind (wrBoxes_ev a h) (sp_flat (bxs a) (Nat.le_trans (bxs_length a) (by omega)) (bxs_ok a) (bxs a).length 0 [] (by omega) (by omega) (by simp) rfl)
    · have hb : bres a = ([], false) := by unfold bres; rw [if_neg h]
      rw [hb]
      simp only [spec_FlatBox.f, wrBars_eq, decide_eq_false h, Option.bind_some, Bool.false_eq_true, if_false]
      exact Ev.now _
  have hi : Ev (fun k => impl_FlatBox.f k a) (fres (bres a).1) := by
    have hf := flat_ok _ (bres_ok a)
    have hb := best_ev (flat (bres a).1) (Nat.le_trans (flat_length _) (bres_small a)) hf
    have e : ib (flat (bres a).1) = fres (bres a).1 := by
      unfold ib fres
      rw [(wb_pos _ hf).1]
    rw [e] at hb
    exact Ev.bind (impl_bres a) hb
  refine Ev.bind hs (Ev.bind hi ?_)
  simp only [laws_eqBox.f, if_true, Option.bind_some]
  exact neg (by simp) (Ev.now _)

end Go.Proofs.Ytolfcknnjggchaa.Pure
