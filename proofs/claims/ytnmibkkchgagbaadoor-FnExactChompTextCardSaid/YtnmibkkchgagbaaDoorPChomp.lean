/- Plain facts on chomps, of the printed functions: whether a list is one, whether a bite can be made, what is left behind it. Conditions: as each law states them. -/
import Derived.Test.YtnmibkkchgagbaaDoorAx1
import Derived.Test.YtnmibkkchgagbaaDoorAx2
import Derived.Test.YtnmibkkchgagbaaDoorAx5
import Derived.Test.YtnmibkkchgagbaaDoorGBitten
import Derived.Test.YtnmibkkchgagbaaDoorPEv
namespace Go.Proofs.YtnmibkkchgagbaaDoor.PChomp
open Go.RowKit Go.Proofs.YtnmibkkchgagbaaDoor.All Go.Proofs.YtnmibkkchgagbaaDoorW.PrintWords Go.Proofs.YtnmibkkchgagbaaDoorW.PrintLast Go.Proofs.YtnmibkkchgagbaaDoor.PEv
set_option linter.unusedSimpArgs false
set_option linter.unusedVariables false

theorem l1In_eq (a lo hi : Int) : spec_l1In.f a lo hi = some (decide (lo ≤ a ∧ a ≤ hi)) := by
  unfold spec_l1In.f
  by_cases h : a ≥ lo
  · simp [h]
  · simp [h]
theorem within_eq (a lo hi : Int) : impl_within.f a lo hi = some (decide (lo ≤ a ∧ a ≤ hi)) := by
  unfold impl_within.f
  by_cases h : lo ≤ a
  · simp [h]
  · simp [h]
def inS (x : Int) : Bool := decide (1 ≤ x ∧ x ≤ 6)
theorem areWithin_eq (l : List Int) : impl_areWithin.f l 1 6 = some (l.all inS) := by
  unfold impl_areWithin.f
  congr 1
  induction l with
  | nil => rfl
  | cons x r ih =>
    rw [List.any_cons, List.all_cons, ← ih, Bool.not_or, Bool.not_not]
    rfl
theorem all_go (l : List Int) (hl : l.length ≤ 4000000) : ∀ (d i : Nat), i ≤ l.length → l.length - i = d → Ev (fun k => spec_l1All.l0 k 1 6 l (l.length : Int) (i : Int)) ((l.drop i).all inS) := by
  intro d
  induction d with
  | zero =>
    intro i h1 h2
    rw [List.drop_of_length_le (by omega)]
    refine Ev.step (f := fun _ => some true) (fun k => ?_) (Ev.now _)
    simp only [spec_l1All.l0]
    rw [if_neg (by omega)]
  | succ d ih =>
    intro i h1 h2
    have hi : i < l.length := by omega
    have er : rd l (i : Int) = l[i] := by simp [rd, List.getD_eq_getElem?_getD, hi]
    rw [List.drop_eq_getElem_cons hi, List.all_cons]
    cases e : inS l[i] with
    | false =>
      rw [Bool.false_and]
      refine Ev.step (f := fun _ => some false) (fun k => ?_) (Ev.now _)
      simp only [spec_l1All.l0]
      rw [if_pos (by omega), if_pos (by omega), if_pos (by omega), er, l1In_eq, show decide (1 ≤ l[i] ∧ l[i] ≤ 6) = false from e]
      rfl
    | true =>
      rw [Bool.true_and]
      refine Ev.step (f := fun k => spec_l1All.l0 k 1 6 l (l.length : Int) ((i + 1 : Nat) : Int)) (fun k => ?_) (ih (i + 1) (by omega) (by omega))
      simp only [spec_l1All.l0]
      rw [if_pos (by omega), if_pos (by omega), if_pos (by omega), er, l1In_eq, show decide (1 ≤ l[i] ∧ l[i] ≤ 6) = true from e, wrap_in (x := (i : Int) + 1) (by omega) (by omega)]
      rfl
theorem all_ev (l : List Int) (hl : l.length ≤ 4000000) : Ev (fun k => spec_l1All.f k l 1 6) (l.all inS) := Ev.congr (fun k => rfl) (all_go l hl l.length 0 (by omega) (by omega))
/-- No row is longer than the one above it, from row i on. -/
def dsc (l : List Int) : Nat → Nat → Bool
  | 0, _ => true
  | d + 1, i => decide (rd l (i : Int) ≤ rd l ((i : Int) - 1)) && dsc l d (i + 1)
def isC (l : List Int) : Bool := dsc l (l.length - 1) 1 && (decide (1 ≤ (l.length : Int) ∧ (l.length : Int) ≤ 6) && l.all inS)
theorem impl_go (l : List Int) (hl : l.length ≤ 4000000) : ∀ (d i : Nat), 1 ≤ i → d = l.length - i → Ev (fun k => impl_IsChomp.l0 k l (i : Int)) (dsc l d i && (decide (1 ≤ (l.length : Int) ∧ (l.length : Int) ≤ 6) && l.all inS)) := by
  intro d
  induction d with
  | zero =>
    intro i h1 h2
    rw [dsc, Bool.true_and]
    refine Ev.step (f := fun _ => some (decide (1 ≤ (l.length : Int) ∧ (l.length : Int) ≤ 6) && l.all inS)) (fun k => ?_) (Ev.now _)
    simp only [impl_IsChomp.l0, impl_isSide.f]
    rw [if_neg (by omega), within_eq, areWithin_eq]
    cases decide (1 ≤ (l.length : Int) ∧ (l.length : Int) ≤ 6) <;> simp
  | succ d ih =>
    intro i h1 h2
    have hw : wrap64 ((i : Int) - 1) = (i : Int) - 1 := wrap_in (by omega) (by omega)
    have hw2 : wrap64 ((i : Int) + 1) = ((i + 1 : Nat) : Int) := by rw [wrap_in (x := (i : Int) + 1) (by omega) (by omega)]; omega
    have HW := Aside0.mk hw
    have HW2 := Aside0.mk hw2
    clear hw hw2
    rw [dsc]
    by_cases hc : rd l (i : Int) ≤ rd l ((i : Int) - 1)
    · rw [decide_eq_true hc, Bool.true_and]
      have hc2 : ¬ rd l (i : Int) > rd l ((i : Int) - 1) := by omega
      clear hc
      refine Ev.step (f := fun k => impl_IsChomp.l0 k l ((i + 1 : Nat) : Int)) (fun k => ?_) (ih (i + 1) (by omega) (by omega))
      simp only [impl_IsChomp.l0]
      rw [if_pos (by omega), if_pos (by omega), HW.out, if_pos (by omega), if_pos (by omega), if_neg hc2, HW2.out]
    · rw [decide_eq_false hc, Bool.false_and, Bool.false_and]
      have hc2 : rd l (i : Int) > rd l ((i : Int) - 1) := by omega
      clear hc
      refine Ev.step (f := fun _ => some false) (fun k => ?_) (Ev.now _)
      simp only [impl_IsChomp.l0]
      rw [if_pos (by omega), if_pos (by omega), HW.out, if_pos (by omega), if_pos (by omega), if_pos hc2]
theorem impl_isC (l : List Int) (hl : l.length ≤ 4000000) : Ev (fun k => impl_IsChomp.f k l) (isC l) := Ev.congr (fun k => rfl) (impl_go l hl (l.length - 1) 1 (by omega) rfl)
theorem spec_go (l : List Int) (hl : l.length ≤ 4000000) : ∀ (d i : Nat), 1 ≤ i → d = l.length - i → Ev (fun k => spec_cmGood.l0 k l (i : Int)) (dsc l d i) := by
  intro d
  induction d with
  | zero =>
    intro i h1 h2
    rw [dsc]
    refine Ev.step (f := fun _ => some true) (fun k => ?_) (Ev.now _)
    simp only [spec_cmGood.l0]
    rw [if_neg (by omega)]
  | succ d ih =>
    intro i h1 h2
    have hw : wrap64 ((i : Int) - 1) = (i : Int) - 1 := wrap_in (by omega) (by omega)
    have hw2 : wrap64 ((i : Int) + 1) = ((i + 1 : Nat) : Int) := by rw [wrap_in (x := (i : Int) + 1) (by omega) (by omega)]; omega
    have HW := Aside0.mk hw
    have HW2 := Aside0.mk hw2
    clear hw hw2
    rw [dsc]
    by_cases hc : rd l (i : Int) ≤ rd l ((i : Int) - 1)
    · rw [decide_eq_true hc, Bool.true_and]
      have hc2 : ¬ rd l (i : Int) > rd l ((i : Int) - 1) := by omega
      clear hc
      refine Ev.step (f := fun k => spec_cmGood.l0 k l ((i + 1 : Nat) : Int)) (fun k => ?_) (ih (i + 1) (by omega) (by omega))
      simp only [spec_cmGood.l0]
      rw [if_pos (by omega), if_pos (by omega), HW.out, if_pos (by omega), if_pos (by omega), if_neg hc2, HW2.out]
    · rw [decide_eq_false hc, Bool.false_and]
      have hc2 : rd l (i : Int) > rd l ((i : Int) - 1) := by omega
      clear hc
      refine Ev.step (f := fun _ => some false) (fun k => ?_) (Ev.now _)
      simp only [spec_cmGood.l0]
      rw [if_pos (by omega), if_pos (by omega), HW.out, if_pos (by omega), if_pos (by omega), if_pos hc2]
theorem spec_isC (l : List Int) (hl : l.length ≤ 4000000) : Ev (fun k => spec_cmGood.f k l) (isC l) := by
  unfold isC
  simp only [spec_cmGood.f, l1In_eq, Option.bind_some]
  cases h1 : decide (1 ≤ (l.length : Int) ∧ (l.length : Int) ≤ 6) with
  | true =>
    simp only [if_true, Bool.true_and]
    refine Ev.bind (all_ev l hl) ?_
    cases h2 : l.all inS with
    | true =>
      rw [Bool.and_true]
      refine Ev.step (f := fun k => spec_cmGood.l0 k l 1) (fun k => ?_) (spec_go l hl (l.length - 1) 1 (by omega) rfl)
      simp only [spec_cmGood.j0]
      rw [if_neg (by simp)]
    | false =>
      rw [Bool.and_false]
      refine Ev.step (f := fun _ => some false) (fun k => ?_) (Ev.now _)
      simp only [spec_cmGood.j0]
      rw [if_pos (by simp)]
  | false =>
    simp only [Bool.false_eq_true, if_false, Bool.false_and, Bool.and_false]
    refine Ev.step (f := fun _ => some false) (fun k => ?_) (Ev.now _)
    simp only [spec_cmGood.j0]
    rw [if_pos (by simp)]
/-- At most six rows of one to six squares. -/
def ok6 (l : List Int) : Prop := l.length ≤ 6 ∧ ∀ n ∈ l, 1 ≤ n ∧ n ≤ 6
theorem isC_ok {l : List Int} (h : isC l = true) : ok6 l ∧ 1 ≤ l.length := by
  unfold isC at h
  simp only [Bool.and_eq_true, decide_eq_true_eq, List.all_eq_true] at h
  refine ⟨⟨by omega, fun n hn => ?_⟩, by omega⟩
  have := h.2.2 n hn
  unfold inS at this
  rwa [decide_eq_true_eq] at this
theorem rd_in {l : List Int} (h : ok6 l) {i : Int} (h0 : 0 ≤ i) (h1 : i < (l.length : Int)) : 1 ≤ rd l i ∧ rd l i ≤ 6 := by
  have hi : i.toNat < l.length := by omega
  have := h.2 l[i.toNat] (List.getElem_mem hi)
  simpa [rd, List.getD_eq_getElem?_getD, hi] using this
def cut (l : List Int) (x y : Int) : List Int := l.take y.toNat ++ (l.drop y.toNat).map (mnx x)
theorem cut_length (l : List Int) (x y : Int) : (cut l x y).length = l.length := by
  unfold cut
  rw [List.length_append, List.length_map, List.length_take, List.length_drop]
  omega
theorem cut_at (l : List Int) (x y : Int) (i : Nat) (h : i < l.length) : (cut l x y)[i]'(by rw [cut_length]; exact h) = if (i : Int) ≥ y then mnx x l[i] else l[i] := by
  unfold cut
  by_cases hy : i < y.toNat
  · rw [List.getElem_append_left (by rw [List.length_take]; omega), List.getElem_take, if_neg (by omega)]
  · rw [List.getElem_append_right (by rw [List.length_take]; omega), List.getElem_map, List.getElem_drop]
    have e : y.toNat + (i - (l.take y.toNat).length) = i := by rw [List.length_take]; omega
    by_cases h2 : (i : Int) ≥ y
    · rw [if_pos h2]
      congr 1
      exact getElem_congr rfl e _
    · exfalso; omega
theorem bit_ok {l : List Int} (h : ok6 l) {x y : Int} (hx : 0 ≤ x) : ok6 (bit l x y) := by
  refine ⟨Nat.le_trans (List.length_filter_le _ _) (by show (cut l x y).length ≤ 6; rw [cut_length]; exact h.1), fun n hn => ?_⟩
  unfold bit at hn
  obtain ⟨h1, h2⟩ := List.mem_filter.1 hn
  have h3 : n ≠ 0 := by simpa using h2
  rcases List.mem_append.1 h1 with h4 | h4
  · exact h.2 n (List.mem_of_mem_take h4)
  · obtain ⟨m, hm, rfl⟩ := List.mem_map.1 h4
    have := h.2 m (List.mem_of_mem_drop hm)
    unfold mnx at h3 ⊢
    split at h3 <;> omega
theorem bite_go {l : List Int} (h : ok6 l) {x y : Int} (hx : 0 ≤ x) (hy : 0 ≤ y) : ∀ (d i : Nat) (acc : List Int), i ≤ l.length → l.length - i = d → acc.length ≤ i → Ev (fun k => spec_cmBite.l0 k x y acc l (l.length : Int) (i : Int)) (acc ++ ((cut l x y).drop i).filter (fun n => !(n == 0))) := by
  have hl := h.1
  intro d
  induction d with
  | zero =>
    intro i acc h1 h2 h3
    rw [List.drop_of_length_le (by rw [cut_length]; omega), List.filter_nil, List.append_nil]
    refine Ev.step (f := fun _ => some acc) (fun k => ?_) (Ev.now _)
    simp only [spec_cmBite.l0]
    rw [if_neg (by omega)]
  | succ d ih =>
    intro i acc h1 h2 h3
    have hi : i < l.length := by omega
    have er : rd l (i : Int) = l[i] := by simp [rd, List.getD_eq_getElem?_getD, hi]
    have hin := h.2 l[i] (List.getElem_mem hi)
    have hw2 : wrap64 ((i : Int) + 1) = ((i + 1 : Nat) : Int) := by rw [wrap_in (x := (i : Int) + 1) (by omega) (by omega)]; omega
    have HW2 := Aside0.mk hw2
    clear hw2
    have hls : spec_l1Least.f l[i] x = some (mnx x l[i]) := by
      unfold spec_l1Least.f mnx
      by_cases c1 : l[i] < x
      · rw [if_pos c1, if_neg (by omega)]
      · rw [if_neg c1]
        by_cases c2 : x < l[i]
        · rw [if_pos c2]
        · rw [if_neg c2]; congr 1; omega
    have hm : 0 ≤ mnx x l[i] := by unfold mnx; split <;> omega
    rw [List.drop_eq_getElem_cons (by rw [cut_length]; exact hi), cut_at l x y i hi, List.filter_cons]
    by_cases c : (i : Int) ≥ y
    · rw [if_pos c]
      by_cases c2 : mnx x l[i] > 0
      · rw [if_pos (by simp; omega)]
        have := ih (i + 1) (acc ++ [mnx x l[i]]) (by omega) (by omega) (by rw [List.length_append, List.length_singleton]; omega)
        rw [List.append_assoc, List.singleton_append] at this
        refine Ev.step (f := fun k => spec_cmBite.l0 k x y (acc ++ [mnx x l[i]]) l (l.length : Int) ((i + 1 : Nat) : Int)) (fun k => ?_) this
        simp only [spec_cmBite.l0]
        rw [if_pos (by omega), if_pos (by omega), if_pos (by omega), if_pos c, er, hls, Option.bind_some, if_pos c2, if_pos (by omega), HW2.out]
      · rw [if_neg (by simp; omega)]
        refine Ev.step (f := fun k => spec_cmBite.l0 k x y acc l (l.length : Int) ((i + 1 : Nat) : Int)) (fun k => ?_) (ih (i + 1) acc (by omega) (by omega) (by omega))
        simp only [spec_cmBite.l0]
        rw [if_pos (by omega), if_pos (by omega), if_pos (by omega), if_pos c, er, hls, Option.bind_some, if_neg c2, HW2.out]
    · rw [if_neg c, if_pos (by simp; omega)]
      have := ih (i + 1) (acc ++ [l[i]]) (by omega) (by omega) (by rw [List.length_append, List.length_singleton]; omega)
      rw [List.append_assoc, List.singleton_append] at this
      refine Ev.step (f := fun k => spec_cmBite.l0 k x y (acc ++ [l[i]]) l (l.length : Int) ((i + 1 : Nat) : Int)) (fun k => ?_) this
      simp only [spec_cmBite.l0]
      rw [if_pos (by omega), if_pos (by omega), if_pos (by omega), if_neg c, er, if_pos (by omega), if_pos (by omega), HW2.out]
theorem spec_bite {l : List Int} (h : ok6 l) {x y : Int} (hx : 0 ≤ x) (hy : 0 ≤ y) : Ev (fun k => spec_cmBite.f k l x y) (bit l x y) := by
  have := bite_go h hx hy l.length 0 [] (Nat.zero_le _) rfl (Nat.le_refl _)
  rw [List.nil_append] at this
  exact Ev.congr (fun k => rfl) this
theorem impl_bite {l : List Int} (h : ok6 l) {x y : Int} (hy : 0 ≤ y) : impl_bitten.f l x y = some (bit l x y) := by
  unfold impl_bitten.f
  rw [if_pos ⟨hy, by have := h.1; omega⟩]
end Go.Proofs.YtnmibkkchgagbaaDoor.PChomp
