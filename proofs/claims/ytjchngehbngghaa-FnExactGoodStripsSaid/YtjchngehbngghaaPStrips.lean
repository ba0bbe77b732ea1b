/- Plain facts on several strips, of the printed functions: whether they are strips. Conditions: as each law states them. -/
import Derived.Test.YtjchngehbngghaaAx6
import Derived.Test.YtjchngehbngghaaPValues
import Derived.Test.YtjchngehbngghaaPCopy
namespace Go.Proofs.Ytjchngehbngghaa.PStrips
open Go.RowKit Go.Proofs.Ytjchngehbngghaa.All Go.Proofs.YtjchngehbngghaaW.PrintWords Go.Proofs.YtjchngehbngghaaW.PrintLast Go.Proofs.Ytjchngehbngghaa.PEv Go.Proofs.Ytjchngehbngghaa.PStrip Go.Proofs.Ytjchngehbngghaa.PMoves Go.Proofs.Ytjchngehbngghaa.PValues
set_option linter.unusedSimpArgs false
set_option linter.unusedVariables false

theorem l1In_eq (a lo hi : Int) : spec_l1In.f a lo hi = some (decide (lo ≤ a ∧ a ≤ hi)) := by
  unfold spec_l1In.f
  by_cases h : a ≥ lo
  · simp [h]
  · simp [h]
theorem within_eq (a lo hi : Int) : impl_within.f a lo hi = some (decide (lo ≤ a ∧ a ≤ hi)) := by
  unfold impl_within.f
  by_cases h : lo ≤ a
  · simp [h]
  · simp [h]
def inS (x : Int) : Bool := decide (1 ≤ x ∧ x ≤ 60)
def ok (l : List Int) : Bool := decide (1 ≤ (l.length : Int) ∧ (l.length : Int) ≤ 8) && l.all inS
theorem areStrips_eq (l : List Int) : impl_areStrips.f l = some (ok l) := by
  have e : (!(l.any fun x => !decide ((1 : Int) ≤ x ∧ x ≤ 60))) = l.all inS := by
    have : ∀ m : List Int, (!(m.any fun x => !decide ((1 : Int) ≤ x ∧ x ≤ 60))) = m.all inS := by
      intro m
      induction m with
      | nil => rfl
      | cons x r ih =>
        rw [List.any_cons, List.all_cons, ← ih, Bool.not_or, Bool.not_not]
        rfl
    exact this l
  unfold impl_areStrips.f ok
  rw [within_eq]
  simp only [Option.bind_some, impl_areWithin.f, e]
  cases decide (1 ≤ (l.length : Int) ∧ (l.length : Int) ≤ 8) <;> simp
theorem all_go (l : List Int) (hl : l.length ≤ 1000000) : ∀ (d i : Nat), i ≤ l.length → l.length - i = d → Ev (fun k => spec_l1All.l0 k 1 60 l (l.length : Int) (i : Int)) ((l.drop i).all inS) := by
  intro d
  induction d with
  | zero =>
    intro i h1 h2
    rw [List.drop_of_length_le (by omega)]
    refine Ev.step (f := fun _ => some true) (fun k => ?_) (Ev.now _)
    simp only [spec_l1All.l0]
    rw [if_neg (by omega)]
  | succ d ih =>
    intro i h1 h2
    have hi : i < l.length := by omega
    have er : rd l (i : Int) = l[i] := by simp [rd, List.getD_eq_getElem?_getD, hi]
    rw [List.drop_eq_getElem_cons hi, List.all_cons]
    cases e : inS l[i] with
    | false =>
      rw [Bool.false_and]
      refine Ev.step (f := fun _ => some false) (fun k => ?_) (Ev.now _)
      simp only [spec_l1All.l0]
      rw [if_pos (by omega), if_pos (by omega), if_pos (by omega), er, l1In_eq, show decide (1 ≤ l[i] ∧ l[i] ≤ 60) = false from e]
      rfl
    | true =>
      rw [Bool.true_and]
      refine Ev.step (f := fun k => spec_l1All.l0 k 1 60 l (l.length : Int) ((i + 1 : Nat) : Int)) (fun k => ?_) (ih (i + 1) (by omega) (by omega))
      simp only [spec_l1All.l0]
      rw [if_pos (by omega), if_pos (by omega), if_pos (by omega), er, l1In_eq, show decide (1 ≤ l[i] ∧ l[i] ≤ 60) = true from e, wrap_in (x := (i : Int) + 1) (by omega) (by omega)]
      rfl
theorem laStrips_ev (l : List Int) (hl : l.length ≤ 4000000) (b : Int) : Ev (fun k => spec_laStrips.f k l b) (ok l && decide (1 ≤ b ∧ b ≤ 60)) := by
  unfold ok
  by_cases h : 1 ≤ (l.length : Int) ∧ (l.length : Int) ≤ 8
  · simp only [spec_laStrips.f, l1In_eq, decide_eq_true h, Option.bind_some, if_true, Bool.true_and]
    refine Ev.bind (Ev.congr (fun k => rfl) (all_go l (by omega) l.length 0 (by omega) (by omega)) : Ev (fun k => spec_l1All.f k l 1 60) (l.all inS)) ?_
    cases l.all inS with
    | true => exact pos rfl (by rw [Bool.true_and]; exact Ev.now _)
    | false => exact neg (by simp) (by rw [Bool.false_and]; exact Ev.now _)
  · simp only [spec_laStrips.f, l1In_eq, decide_eq_false h, Option.bind_some, Bool.false_and, Bool.false_eq_true, if_false]
    exact Ev.now _
theorem ok_mem {l : List Int} (h : ok l = true) : 1 ≤ (l.length : Int) ∧ (l.length : Int) ≤ 8 ∧ ∀ i : Int, 0 ≤ i → i < (l.length : Int) → 1 ≤ rd l i ∧ rd l i ≤ 60 := by
  unfold ok at h
  simp only [Bool.and_eq_true, decide_eq_true_eq, List.all_eq_true] at h
  refine ⟨h.1.1, h.1.2, fun i h0 h1 => ?_⟩
  have hi : i.toNat < l.length := by omega
  have := h.2 l[i.toNat] (List.getElem_mem hi)
  unfold inS at this
  rw [decide_eq_true_eq] at this
  simpa [rd, List.getD_eq_getElem?_getD, hi] using this

end Go.Proofs.Ytjchngehbngghaa.PStrips
