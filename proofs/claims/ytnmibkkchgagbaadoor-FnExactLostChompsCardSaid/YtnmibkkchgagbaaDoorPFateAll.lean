/- Plain facts on chomps, of the printed functions: whether a list is one, bites, what is left behind them, the heap of a chomp, all chomps in order, the table of the heaps. Conditions: chomps of at most six rows of one to six squares. -/
import Derived.Test.YtnmibkkchgagbaaDoorAx1
import Derived.Test.YtnmibkkchgagbaaDoorAx2
import Derived.Test.YtnmibkkchgagbaaDoorAx4
import Derived.Test.YtnmibkkchgagbaaDoorGDelB
import Derived.Test.YtnmibkkchgagbaaDoorPEv
import Derived.Test.YtnmibkkchgagbaaDoorAx3
namespace Go.Proofs.YtnmibkkchgagbaaDoor.PChomp
open Go.RowKit Go.Proofs.YtnmibkkchgagbaaDoor.All Go.Proofs.YtnmibkkchgagbaaDoorW.PrintWords Go.Proofs.YtnmibkkchgagbaaDoorW.PrintLast Go.Proofs.YtnmibkkchgagbaaDoor.PEv
set_option linter.unusedSimpArgs false
set_option linter.unusedVariables false

theorem l1In_eq (a lo hi : Int) : spec_l1In.f a lo hi = some (decide (lo ≤ a ∧ a ≤ hi)) := by
  unfold spec_l1In.f
  by_cases h : a ≥ lo
  · simp [h]
  · simp [h]
theorem within_eq (a lo hi : Int) : impl_within.f a lo hi = some (decide (lo ≤ a ∧ a ≤ hi)) := by
  unfold impl_within.f
  by_cases h : lo ≤ a
  · simp [h]
  · simp [h]
def inS (x : Int) : Bool := decide (1 ≤ x ∧ x ≤ 6)
theorem areWithin_eq (l : List Int) : impl_areWithin.f l 1 6 = some (l.all inS) := by
  unfold impl_areWithin.f
  congr 1
  induction l with
  | nil => rfl
  | cons x r ih =>
    rw [List.any_cons, List.all_cons, ← ih, Bool.not_or, Bool.not_not]
    rfl
theorem all_go (l : List Int) (hl : l.length ≤ 4000000) : ∀ (d i : Nat), i ≤ l.length → l.length - i = d → Ev (fun k => spec_l1All.l0 k 1 6 l (l.length : Int) (i : Int)) ((l.drop i).all inS) := by
  intro d
  induction d with
  | zero =>
    intro i h1 h2
    rw [List.drop_of_length_le (by omega)]
    refine Ev.step (f := fun _ => some true) (fun k => ?_) (Ev.now _)
    simp only [spec_l1All.l0]
    rw [if_neg (by omega)]
  | succ d ih =>
    intro i h1 h2
    have hi : i < l.length := by omega
    have er : rd l (i : Int) = l[i] := by simp [rd, List.getD_eq_getElem?_getD, hi]
    rw [List.drop_eq_getElem_cons hi, List.all_cons]
    cases e : inS l[i] with
    | false =>
      rw [Bool.false_and]
      refine Ev.step (f := fun _ => some false) (fun k => ?_) (Ev.now _)
      simp only [spec_l1All.l0]
      rw [if_pos (by omega), if_pos (by omega), if_pos (by omega), er, l1In_eq, show decide (1 ≤ l[i] ∧ l[i] ≤ 6) = false from e]
      rfl
    | true =>
      rw [Bool.true_and]
      refine Ev.step (f := fun k => spec_l1All.l0 k 1 6 l (l.length : Int) ((i + 1 : Nat) : Int)) (fun k => ?_) (ih (i + 1) (by omega) (by omega))
      simp only [spec_l1All.l0]
      rw [if_pos (by omega), if_pos (by omega), if_pos (by omega), er, l1In_eq, show decide (1 ≤ l[i] ∧ l[i] ≤ 6) = true from e, wrap_in (x := (i : Int) + 1) (by omega) (by omega)]
      rfl
theorem all_ev (l : List Int) (hl : l.length ≤ 4000000) : Ev (fun k => spec_l1All.f k l 1 6) (l.all inS) := Ev.congr (fun k => rfl) (all_go l hl l.length 0 (by omega) (by omega))
/-- No row is longer than the one above it, from row i on. -/
def dsc (l : List Int) : Nat → Nat → Bool
  | 0, _ => true
  | d + 1, i => decide (rd l (i : Int) ≤ rd l ((i : Int) - 1)) && dsc l d (i + 1)
def isC (l : List Int) : Bool := dsc l (l.length - 1) 1 && (decide (1 ≤ (l.length : Int) ∧ (l.length : Int) ≤ 6) && l.all inS)
theorem impl_go (l : List Int) (hl : l.length ≤ 4000000) : ∀ (d i : Nat), 1 ≤ i → d = l.length - i → Ev (fun k => impl_IsChomp.l0 k l (i : Int)) (dsc l d i && (decide (1 ≤ (l.length : Int) ∧ (l.length : Int) ≤ 6) && l.all inS)) := by
  intro d
  induction d with
  | zero =>
    intro i h1 h2
    rw [dsc, Bool.true_and]
    refine Ev.step (f := fun _ => some (decide (1 ≤ (l.length : Int) ∧ (l.length : Int) ≤ 6) && l.all inS)) (fun k => ?_) (Ev.now _)
    simp only [impl_IsChomp.l0, impl_isSide.f]
    rw [if_neg (by omega), within_eq, areWithin_eq]
    cases decide (1 ≤ (l.length : Int) ∧ (l.length : Int) ≤ 6) <;> simp
  | succ d ih =>
    intro i h1 h2
    have hw : wrap64 ((i : Int) - 1) = (i : Int) - 1 := wrap_in (by omega) (by omega)
    have hw2 : wrap64 ((i : Int) + 1) = ((i + 1 : Nat) : Int) := by rw [wrap_in (x := (i : Int) + 1) (by omega) (by omega)]; omega
    have HW := Aside0.mk hw
    have HW2 := Aside0.mk hw2
    clear hw hw2
    rw [dsc]
    by_cases hc : rd l (i : Int) ≤ rd l ((i : Int) - 1)
    · rw [decide_eq_true hc, Bool.true_and]
      have hc2 : ¬ rd l (i : Int) > rd l ((i : Int) - 1) := by omega
      clear hc
      refine Ev.step (f := fun k => impl_IsChomp.l0 k l ((i + 1 : Nat) : Int)) (fun k => ?_) (ih (i + 1) (by omega) (by omega))
      simp only [impl_IsChomp.l0]
      rw [if_pos (by omega), if_pos (by omega), HW.out, if_pos (by omega), if_pos (by omega), if_neg hc2, HW2.out]
    · rw [decide_eq_false hc, Bool.false_and, Bool.false_and]
      have hc2 : rd l (i : Int) > rd l ((i : Int) - 1) := by omega
      clear hc
      refine Ev.step (f := fun _ => some false) (fun k => ?_) (Ev.now _)
      simp only [impl_IsChomp.l0]
      rw [if_pos (by omega), if_pos (by omega), HW.out, if_pos (by omega), if_pos (by omega), if_pos hc2]
theorem impl_isC (l : List Int) (hl : l.length ≤ 4000000) : Ev (fun k => impl_IsChomp.f k l) (isC l) := Ev.congr (fun k => rfl) (impl_go l hl (l.length - 1) 1 (by omega) rfl)
theorem spec_go (l : List Int) (hl : l.length ≤ 4000000) : ∀ (d i : Nat), 1 ≤ i → d = l.length - i → Ev (fun k => spec_cmGood.l0 k l (i : Int)) (dsc l d i) := by
  intro d
  induction d with
  | zero =>
    intro i h1 h2
    rw [dsc]
    refine Ev.step (f := fun _ => some true) (fun k => ?_) (Ev.now _)
    simp only [spec_cmGood.l0]
    rw [if_neg (by omega)]
  | succ d ih =>
    intro i h1 h2
    have hw : wrap64 ((i : Int) - 1) = (i : Int) - 1 := wrap_in (by omega) (by omega)
    have hw2 : wrap64 ((i : Int) + 1) = ((i + 1 : Nat) : Int) := by rw [wrap_in (x := (i : Int) + 1) (by omega) (by omega)]; omega
    have HW := Aside0.mk hw
    have HW2 := Aside0.mk hw2
    clear hw hw2
    rw [dsc]
    by_cases hc : rd l (i : Int) ≤ rd l ((i : Int) - 1)
    · rw [decide_eq_true hc, Bool.true_and]
      have hc2 : ¬ rd l (i : Int) > rd l ((i : Int) - 1) := by omega
      clear hc
      refine Ev.step (f := fun k => spec_cmGood.l0 k l ((i + 1 : Nat) : Int)) (fun k => ?_) (ih (i + 1) (by omega) (by omega))
      simp only [spec_cmGood.l0]
      rw [if_pos (by omega), if_pos (by omega), HW.out, if_pos (by omega), if_pos (by omega), if_neg hc2, HW2.out]
    · rw [decide_eq_false hc, Bool.false_and]
      have hc2 : rd l (i : Int) > rd l ((i : Int) - 1) := by omega
      clear hc
      refine Ev.step (f := fun _ => some false) (fun k => ?_) (Ev.now _)
      simp only [spec_cmGood.l0]
      rw [if_pos (by omega), if_pos (by omega), HW.out, if_pos (by omega), if_pos (by omega), if_pos hc2]
theorem spec_isC (l : List Int) (hl : l.length ≤ 4000000) : Ev (fun k => spec_cmGood.f k l) (isC l) := by
  unfold isC
  simp only [spec_cmGood.f, l1In_eq, Option.bind_some]
  cases h1 : decide (1 ≤ (l.length : Int) ∧ (l.length : Int) ≤ 6) with
  | true =>
    simp only [if_true, Bool.true_and]
    refine Ev.bind (all_ev l hl) ?_
    cases h2 : l.all inS with
    | true =>
      rw [Bool.and_true]
      refine Ev.step (f := fun k => spec_cmGood.l0 k l 1) (fun k => ?_) (spec_go l hl (l.length - 1) 1 (by omega) rfl)
      simp only [spec_cmGood.j0]
      rw [if_neg (by simp)]
    | false =>
      rw [Bool.and_false]
      refine Ev.step (f := fun _ => some false) (fun k => ?_) (Ev.now _)
      simp only [spec_cmGood.j0]
      rw [if_pos (by simp)]
  | false =>
    simp only [Bool.false_eq_true, if_false, Bool.false_and, Bool.and_false]
    refine Ev.step (f := fun _ => some false) (fun k => ?_) (Ev.now _)
    simp only [spec_cmGood.j0]
    rw [if_pos (by simp)]
/-- At most six rows of one to six squares. -/
def ok6 (l : List Int) : Prop := l.length ≤ 6 ∧ ∀ n ∈ l, 1 ≤ n ∧ n ≤ 6
theorem isC_ok {l : List Int} (h : isC l = true) : ok6 l ∧ 1 ≤ l.length := by
  unfold isC at h
  simp only [Bool.and_eq_true, decide_eq_true_eq, List.all_eq_true] at h
  refine ⟨⟨by omega, fun n hn => ?_⟩, by omega⟩
  have := h.2.2 n hn
  unfold inS at this
  rwa [decide_eq_true_eq] at this
theorem rd_in {l : List Int} (h : ok6 l) {i : Int} (h0 : 0 ≤ i) (h1 : i < (l.length : Int)) : 1 ≤ rd l i ∧ rd l i ≤ 6 := by
  have hi : i.toNat < l.length := by omega
  have := h.2 l[i.toNat] (List.getElem_mem hi)
  simpa [rd, List.getD_eq_getElem?_getD, hi] using this
def cut (l : List Int) (x y : Int) : List Int := l.take y.toNat ++ (l.drop y.toNat).map (mnx x)
theorem cut_length (l : List Int) (x y : Int) : (cut l x y).length = l.length := by
  unfold cut
  rw [List.length_append, List.length_map, List.length_take, List.length_drop]
  omega
theorem cut_at (l : List Int) (x y : Int) (i : Nat) (h : i < l.length) : (cut l x y)[i]'(by rw [cut_length]; exact h) = if (i : Int) ≥ y then mnx x l[i] else l[i] := by
  unfold cut
  by_cases hy : i < y.toNat
  · rw [List.getElem_append_left (by rw [List.length_take]; omega), List.getElem_take, if_neg (by omega)]
  · rw [List.getElem_append_right (by rw [List.length_take]; omega), List.getElem_map, List.getElem_drop]
    have e : y.toNat + (i - (l.take y.toNat).length) = i := by rw [List.length_take]; omega
    by_cases h2 : (i : Int) ≥ y
    · rw [if_pos h2]
      congr 1
      exact getElem_congr rfl e _
    · exfalso; omega
theorem bit_ok {l : List Int} (h : ok6 l) {x y : Int} (hx : 0 ≤ x) : ok6 (bit l x y) := by
  refine ⟨Nat.le_trans (List.length_filter_le _ _) (by show (cut l x y).length ≤ 6; rw [cut_length]; exact h.1), fun n hn => ?_⟩
  unfold bit at hn
  obtain ⟨h1, h2⟩ := List.mem_filter.1 hn
  have h3 : n ≠ 0 := by simpa using h2
  rcases List.mem_append.1 h1 with h4 | h4
  · exact h.2 n (List.mem_of_mem_take h4)
  · obtain ⟨m, hm, rfl⟩ := List.mem_map.1 h4
    have := h.2 m (List.mem_of_mem_drop hm)
    unfold mnx at h3 ⊢
    split at h3 <;> omega
theorem bite_go {l : List Int} (h : ok6 l) {x y : Int} (hx : 0 ≤ x) (hy : 0 ≤ y) : ∀ (d i : Nat) (acc : List Int), i ≤ l.length → l.length - i = d → acc.length ≤ i → Ev (fun k => spec_cmBite.l0 k x y acc l (l.length : Int) (i : Int)) (acc ++ ((cut l x y).drop i).filter (fun n => !(n == 0))) := by
  have hl := h.1
  intro d
  induction d with
  | zero =>
    intro i acc h1 h2 h3
    rw [List.drop_of_length_le (by rw [cut_length]; omega), List.filter_nil, List.append_nil]
    refine Ev.step (f := fun _ => some acc) (fun k => ?_) (Ev.now _)
    simp only [spec_cmBite.l0]
    rw [if_neg (by omega)]
  | succ d ih =>
    intro i acc h1 h2 h3
    have hi : i < l.length := by omega
    have er : rd l (i : Int) = l[i] := by simp [rd, List.getD_eq_getElem?_getD, hi]
    have hin := h.2 l[i] (List.getElem_mem hi)
    have hw2 : wrap64 ((i : Int) + 1) = ((i + 1 : Nat) : Int) := by rw [wrap_in (x := (i : Int) + 1) (by omega) (by omega)]; omega
    have HW2 := Aside0.mk hw2
    clear hw2
    have hls : spec_l1Least.f l[i] x = some (mnx x l[i]) := by
      unfold spec_l1Least.f mnx
      by_cases c1 : l[i] < x
      · rw [if_pos c1, if_neg (by omega)]
      · rw [if_neg c1]
        by_cases c2 : x < l[i]
        · rw [if_pos c2]
        · rw [if_neg c2]; congr 1; omega
    have hm : 0 ≤ mnx x l[i] := by unfold mnx; split <;> omega
    rw [List.drop_eq_getElem_cons (by rw [cut_length]; exact hi), cut_at l x y i hi, List.filter_cons]
    by_cases c : (i : Int) ≥ y
    · rw [if_pos c]
      by_cases c2 : mnx x l[i] > 0
      · rw [if_pos (by simp; omega)]
        have := ih (i + 1) (acc ++ [mnx x l[i]]) (by omega) (by omega) (by rw [List.length_append, List.length_singleton]; omega)
        rw [List.append_assoc, List.singleton_append] at this
        refine Ev.step (f := fun k => spec_cmBite.l0 k x y (acc ++ [mnx x l[i]]) l (l.length : Int) ((i + 1 : Nat) : Int)) (fun k => ?_) this
        simp only [spec_cmBite.l0]
        rw [if_pos (by omega), if_pos (by omega), if_pos (by omega), if_pos c, er, hls, Option.bind_some, if_pos c2, if_pos (by omega), HW2.out]
      · rw [if_neg (by simp; omega)]
        refine Ev.step (f := fun k => spec_cmBite.l0 k x y acc l (l.length : Int) ((i + 1 : Nat) : Int)) (fun k => ?_) (ih (i + 1) acc (by omega) (by omega) (by omega))
        simp only [spec_cmBite.l0]
        rw [if_pos (by omega), if_pos (by omega), if_pos (by omega), if_pos c, er, hls, Option.bind_some, if_neg c2, HW2.out]
    · rw [if_neg c, if_pos (by simp; omega)]
      have := ih (i + 1) (acc ++ [l[i]]) (by omega) (by omega) (by rw [List.length_append, List.length_singleton]; omega)
      rw [List.append_assoc, List.singleton_append] at this
      refine Ev.step (f := fun k => spec_cmBite.l0 k x y (acc ++ [l[i]]) l (l.length : Int) ((i + 1 : Nat) : Int)) (fun k => ?_) this
      simp only [spec_cmBite.l0]
      rw [if_pos (by omega), if_pos (by omega), if_pos (by omega), if_neg c, er, if_pos (by omega), if_pos (by omega), HW2.out]
theorem spec_bite {l : List Int} (h : ok6 l) {x y : Int} (hx : 0 ≤ x) (hy : 0 ≤ y) : Ev (fun k => spec_cmBite.f k l x y) (bit l x y) := by
  have := bite_go h hx hy l.length 0 [] (Nat.zero_le _) rfl (Nat.le_refl _)
  rw [List.nil_append] at this
  exact Ev.congr (fun k => rfl) this
theorem impl_bite {l : List Int} (h : ok6 l) {x y : Int} (hy : 0 ≤ y) : impl_bitten.f l x y = some (bit l x y) := by
  unfold impl_bitten.f
  rw [if_pos ⟨hy, by have := h.1; omega⟩]
end Go.Proofs.YtnmibkkchgagbaaDoor.PChomp
namespace Go.Proofs.YtnmibkkchgagbaaDoor.PFate
open Go.RowKit Go.Proofs.YtnmibkkchgagbaaDoor.All Go.Proofs.YtnmibkkchgagbaaDoorW.PrintWords Go.Proofs.YtnmibkkchgagbaaDoorW.PrintLast Go.Proofs.YtnmibkkchgagbaaDoor.PEv Go.Proofs.YtnmibkkchgagbaaDoor.PChomp
set_option linter.unusedVariables false
set_option linter.unusedSimpArgs false

/-! ### all bites -/
def rowMv (y : Int) (x : Int) : Nat → List (List Int)
  | 0 => []
  | d + 1 => (if x > 0 ∨ y > 0 then [[x, y]] else []) ++ rowMv y (x + 1) d
def mvF (l : List Int) (i : Nat) : Nat → List (List Int)
  | 0 => []
  | d + 1 => rowMv (i : Int) 0 (rd l (i : Int)).toNat ++ mvF l (i + 1) d
def mv (l : List Int) : List (List Int) := mvF l 0 l.length
theorem rowMv_len (y : Int) : ∀ (d : Nat) (x : Int), (rowMv y x d).length ≤ d
  | 0, x => by simp [rowMv]
  | d + 1, x => by
    have := rowMv_len y d (x + 1)
    rw [rowMv, List.length_append]
    split <;> simp <;> omega
theorem rowMv_mem (y : Int) : ∀ (d : Nat) (x : Int) (m : List Int), m ∈ rowMv y x d → ∃ a : Int, m = [a, y] ∧ x ≤ a ∧ a < x + d ∧ (a > 0 ∨ y > 0)
  | 0, x, m, h => by simp [rowMv] at h
  | d + 1, x, m, h => by
    rw [rowMv, List.mem_append] at h
    rcases h with h | h
    · split at h
      · next c => exact ⟨x, by simpa using h, by omega, by omega, c⟩
      · simp at h
    · obtain ⟨a, h1, h2, h3, h4⟩ := rowMv_mem y d (x + 1) m h
      exact ⟨a, h1, by omega, by omega, h4⟩
theorem mvF_mem (l : List Int) : ∀ (d i : Nat) (m : List Int), i + d = l.length → m ∈ mvF l i d → ∃ (a : Int) (y : Nat), m = [a, (y : Int)] ∧ i ≤ y ∧ y < l.length ∧ 0 ≤ a ∧ a < rd l (y : Int) ∧ (a > 0 ∨ y > 0)
  | 0, i, m, h0, h => by simp [mvF] at h
  | d + 1, i, m, h0, h => by
    rw [mvF, List.mem_append] at h
    rcases h with h | h
    · obtain ⟨a, h1, h2, h3, h4⟩ := rowMv_mem _ _ _ m h
      exact ⟨a, i, h1, Nat.le_refl _, by omega, h2, by omega, by omega⟩
    · obtain ⟨a, y, h1, h2, h3, h4⟩ := mvF_mem l d (i + 1) m (by omega) h
      exact ⟨a, y, h1, by omega, h3, h4⟩
theorem mv_mem {l m : List Int} (h : m ∈ mv l) : ∃ (a : Int) (y : Nat), m = [a, (y : Int)] ∧ y < l.length ∧ 0 ≤ a ∧ a < rd l (y : Int) ∧ (a > 0 ∨ y > 0) := by
  obtain ⟨a, y, h1, _, h3⟩ := mvF_mem l l.length 0 m (by omega) h
  exact ⟨a, y, h1, h3⟩
theorem mvF_len {l : List Int} (hok : ok6 l) : ∀ (d i : Nat), i + d = l.length → (mvF l i d).length ≤ 6 * d
  | 0, i, h => by simp [mvF]
  | d + 1, i, h => by
    have ih := mvF_len hok d (i + 1) (by omega)
    have h1 := rowMv_len (i : Int) (rd l (i : Int)).toNat 0
    have h2 := rd_in hok (i := (i : Int)) (by omega) (by omega)
    rw [mvF, List.length_append]
    omega
theorem mv_len {l : List Int} (hok : ok6 l) : (mv l).length ≤ 36 := by
  have := mvF_len hok l.length 0 (by omega)
  have := hok.1
  unfold mv
  omega

/-- The printed impl.bites lists them. -/
theorem bites_row (l : List Int) (hok : ok6 l) (i : Nat) (hi : i < l.length) (R : List (List Int))
    (hnext : ∀ acc : List (List Int), acc.length ≤ 6 * (i + 1) → Ev (fun k => impl_bites.l0 k acc l (l.length : Int) ((i + 1 : Nat) : Int)) (acc ++ R)) :
    ∀ (d : Nat) (x : Int) (acc : List (List Int)), 0 ≤ x → x + d = rd l (i : Int) → acc.length ≤ 6 * i + x.toNat →
      Ev (fun k => impl_bites.l1 k acc (i : Int) l (l.length : Int) (i : Int) (rd l (i : Int)) x) (acc ++ (rowMv (i : Int) x d ++ R)) := by
  have hb := rd_in hok (i := (i : Int)) (by omega) (by omega)
  have hL := hok.1
  obtain ⟨n, hn⟩ : ∃ n, rd l (i : Int) = n := ⟨_, rfl⟩
  have hw2 : wrap64 ((i : Int) + 1) = ((i + 1 : Nat) : Int) := by rw [wrap_in (x := (i : Int) + 1) (by omega) (by omega)]; omega
  have HW2 := Aside0.mk hw2
  clear hw2
  rw [hn] at hb ⊢
  have HN := Aside0.mk hn
  clear hn
  intro d
  induction d with
  | zero =>
    intro x acc h0 h1 h2
    rw [rowMv, List.nil_append]
    refine Ev.step (f := fun k => impl_bites.l0 k acc l (l.length : Int) ((i + 1 : Nat) : Int)) (fun k => ?_) (hnext acc (by omega))
    simp only [impl_bites.l1]
    rw [if_neg (by omega), HW2.out]
  | succ d ih =>
    intro x acc h0 h1 h2
    have hwx : wrap64 (x + 1) = x + 1 := wrap_in (by omega) (by omega)
    have HWX := Aside0.mk hwx
    clear hwx
    rw [rowMv]
    by_cases c : x > 0 ∨ (i : Int) > 0
    · rw [if_pos c]
      have e : acc ++ ([[x, (i : Int)]] ++ rowMv (i : Int) (x + 1) d ++ R) = (acc ++ [[x, (i : Int)]]) ++ (rowMv (i : Int) (x + 1) d ++ R) := by simp
      rw [e]
      refine Ev.step (f := fun k => impl_bites.l1 k (acc ++ [[x, (i : Int)]]) (i : Int) l (l.length : Int) (i : Int) n (x + 1)) (fun k => ?_) (ih (x + 1) _ (by omega) (by omega) (by simp; omega))
      simp only [impl_bites.l1]
      rw [if_pos (by omega), HWX.out]
      by_cases cx : x > 0
      · rw [if_pos cx, if_pos (by omega)]
      · rw [if_neg cx, if_pos (c.resolve_left cx), if_pos (by omega)]
    · rw [if_neg c, List.nil_append]
      refine Ev.step (f := fun k => impl_bites.l1 k acc (i : Int) l (l.length : Int) (i : Int) n (x + 1)) (fun k => ?_) (ih (x + 1) _ (by omega) (by omega) (by omega))
      simp only [impl_bites.l1]
      rw [if_pos (by omega), if_neg (fun h => c (.inl h)), if_neg (fun h => c (.inr h)), HWX.out]
theorem bites_go (l : List Int) (hok : ok6 l) : ∀ (d i : Nat) (acc : List (List Int)), i + d = l.length → acc.length ≤ 6 * i → Ev (fun k => impl_bites.l0 k acc l (l.length : Int) (i : Int)) (acc ++ mvF l i d) := by
  intro d
  induction d with
  | zero =>
    intro i acc h1 h2
    rw [mvF, List.append_nil]
    refine Ev.step (f := fun _ => some acc) (fun k => ?_) (Ev.now _)
    simp only [impl_bites.l0]
    rw [if_neg (by omega)]
  | succ d ih =>
    intro i acc h1 h2
    have hi : i < l.length := by omega
    have hb := rd_in hok (i := (i : Int)) (by omega) (by omega)
    rw [mvF]
    refine Ev.step (f := fun k => impl_bites.l1 k acc (i : Int) l (l.length : Int) (i : Int) (rd l (i : Int)) 0) (fun k => ?_) (bites_row l hok i hi _ (fun a ha => ih (i + 1) a (by omega) ha) _ 0 acc (by omega) (by omega) (by omega))
    simp only [impl_bites.l0]
    rw [if_pos (by omega), if_pos (by omega), if_pos (by omega)]
theorem bites_ev {l : List Int} (hok : ok6 l) : Ev (fun k => impl_bites.f k l) (mv l) :=
  Ev.congr (fun k => rfl) (bites_go l hok l.length 0 [] (by omega) (by simp))
/-- The printed spec.cmMoves lists them. -/
theorem moves_row (l : List Int) (hok : ok6 l) (i : Nat) (hi : i < l.length) (R : List (List Int))
    (hnext : ∀ acc : List (List Int), acc.length ≤ 6 * (i + 1) → Ev (fun k => spec_cmMoves.l0 k acc l (l.length : Int) ((i + 1 : Nat) : Int)) (acc ++ R)) :
    ∀ (d : Nat) (x : Int) (acc : List (List Int)), 0 ≤ x → x + d = rd l (i : Int) → acc.length ≤ 6 * i + x.toNat →
      Ev (fun k => spec_cmMoves.l1 k acc (i : Int) (rd l (i : Int)) x l (l.length : Int) (i : Int)) (acc ++ (rowMv (i : Int) x d ++ R)) := by
  have hb := rd_in hok (i := (i : Int)) (by omega) (by omega)
  have hL := hok.1
  obtain ⟨n, hn⟩ : ∃ n, rd l (i : Int) = n := ⟨_, rfl⟩
  have hw2 : wrap64 ((i : Int) + 1) = ((i + 1 : Nat) : Int) := by rw [wrap_in (x := (i : Int) + 1) (by omega) (by omega)]; omega
  have HW2 := Aside0.mk hw2
  clear hw2
  rw [hn] at hb ⊢
  have HN := Aside0.mk hn
  clear hn
  intro d
  induction d with
  | zero =>
    intro x acc h0 h1 h2
    rw [rowMv, List.nil_append]
    refine Ev.step (f := fun k => spec_cmMoves.l0 k acc l (l.length : Int) ((i + 1 : Nat) : Int)) (fun k => ?_) (hnext acc (by omega))
    simp only [spec_cmMoves.l1]
    rw [if_neg (by omega), HW2.out]
  | succ d ih =>
    intro x acc h0 h1 h2
    have hwx : wrap64 (x + 1) = x + 1 := wrap_in (by omega) (by omega)
    have hws : wrap64 (x + (i : Int)) = x + (i : Int) := wrap_in (by omega) (by omega)
    have HWX := Aside0.mk hwx
    have HWS := Aside0.mk hws
    clear hwx hws
    rw [rowMv]
    by_cases c : x > 0 ∨ (i : Int) > 0
    · rw [if_pos c]
      have e : acc ++ ([[x, (i : Int)]] ++ rowMv (i : Int) (x + 1) d ++ R) = (acc ++ [[x, (i : Int)]]) ++ (rowMv (i : Int) (x + 1) d ++ R) := by simp
      rw [e]
      refine Ev.step (f := fun k => spec_cmMoves.l1 k (acc ++ [[x, (i : Int)]]) (i : Int) n (x + 1) l (l.length : Int) (i : Int)) (fun k => ?_) (ih (x + 1) _ (by omega) (by omega) (by simp; omega))
      simp only [spec_cmMoves.l1]
      rw [if_pos (by omega), HWX.out, HWS.out, if_pos (by omega), if_pos (by omega)]
    · rw [if_neg c, List.nil_append]
      refine Ev.step (f := fun k => spec_cmMoves.l1 k acc (i : Int) n (x + 1) l (l.length : Int) (i : Int)) (fun k => ?_) (ih (x + 1) _ (by omega) (by omega) (by omega))
      simp only [spec_cmMoves.l1]
      rw [if_pos (by omega), HWX.out, HWS.out, if_neg (by omega)]
theorem moves_go (l : List Int) (hok : ok6 l) : ∀ (d i : Nat) (acc : List (List Int)), i + d = l.length → acc.length ≤ 6 * i → Ev (fun k => spec_cmMoves.l0 k acc l (l.length : Int) (i : Int)) (acc ++ mvF l i d) := by
  intro d
  induction d with
  | zero =>
    intro i acc h1 h2
    rw [mvF, List.append_nil]
    refine Ev.step (f := fun _ => some acc) (fun k => ?_) (Ev.now _)
    simp only [spec_cmMoves.l0]
    rw [if_neg (by omega)]
  | succ d ih =>
    intro i acc h1 h2
    have hi : i < l.length := by omega
    have hb := rd_in hok (i := (i : Int)) (by omega) (by omega)
    rw [mvF]
    refine Ev.step (f := fun k => spec_cmMoves.l1 k acc (i : Int) (rd l (i : Int)) 0 l (l.length : Int) (i : Int)) (fun k => ?_) (moves_row l hok i hi _ (fun a ha => ih (i + 1) a (by omega) ha) _ 0 acc (by omega) (by omega) (by omega))
    simp only [spec_cmMoves.l0]
    rw [if_pos (by omega), if_pos (by omega), if_pos (by omega)]
theorem moves_ev {l : List Int} (hok : ok6 l) : Ev (fun k => spec_cmMoves.f k l) (mv l) :=
  Ev.congr (fun k => rfl) (moves_go l hok l.length 0 [] (by omega) (by simp))

/-! ### how many squares are left -/
def sm : List Int → Int
  | [] => 0
  | n :: r => n + sm r
theorem sm_app : ∀ (a b : List Int), sm (a ++ b) = sm a + sm b
  | [], b => by simp [sm]
  | n :: r, b => by
    rw [List.cons_append, sm, sm, sm_app r b]
    omega
theorem sm_filter : ∀ (a : List Int), sm (a.filter (fun n => !(n == 0))) = sm a
  | [] => rfl
  | n :: r => by
    have ih := sm_filter r
    by_cases h : n = 0
    · rw [List.filter_cons_of_neg (by simp [h]), ih, sm, h, Int.zero_add]
    · rw [List.filter_cons_of_pos (by simp [h]), sm, ih, sm]
theorem sm_map (x : Int) : ∀ (a : List Int), sm (a.map (mnx x)) ≤ sm a
  | [] => by simp [sm]
  | n :: r => by
    have ih := sm_map x r
    rw [List.map_cons, sm, sm]
    unfold mnx at *
    split <;> omega
theorem sm_pos : ∀ {a : List Int}, (∀ n ∈ a, 1 ≤ n) → 0 ≤ sm a
  | [], _ => by simp [sm]
  | n :: r, h => by
    have ih := sm_pos (a := r) (fun m hm => h m (by simp [hm]))
    have := h n (by simp)
    rw [sm]
    omega
theorem sm_le : ∀ {a : List Int}, (∀ n ∈ a, n ≤ 6) → sm a ≤ 6 * a.length
  | [], _ => by simp [sm]
  | n :: r, h => by
    have ih := sm_le (a := r) (fun m hm => h m (by simp [hm]))
    have := h n (by simp)
    rw [sm, List.length_cons]
    omega
theorem sm_36 {l : List Int} (h : ok6 l) : 0 ≤ sm l ∧ sm l ≤ 36 := by
  have h1 := sm_le (fun n hn => (h.2 n hn).2)
  have h2 := sm_pos (fun n hn => (h.2 n hn).1)
  have := h.1
  omega
theorem sm_bit {l : List Int} (hok : ok6 l) {a : Int} {y : Nat} (hy : y < l.length) (ha : a < rd l (y : Int)) : sm (bit l a (y : Int)) < sm l := by
  have er : rd l (y : Int) = l[y] := by simp [rd, List.getD_eq_getElem?_getD, hy]
  rw [er] at ha
  unfold bit
  rw [sm_filter, Int.toNat_natCast, sm_app]
  have h1 : sm l = sm (l.take y) + (l[y] + sm (l.drop (y + 1))) := by
    rw [← sm, ← List.drop_eq_getElem_cons hy, ← sm_app, List.take_append_drop]
  rw [h1, List.drop_eq_getElem_cons hy, List.map_cons, sm]
  have h2 := sm_map a (l.drop (y + 1))
  have h3 : mnx a l[y] = a := by
    unfold mnx
    rw [if_pos ha]
  omega

/-! ### the fate of a chomp -/
def mexF (S : List Int) : Nat → Int → Int
  | 0, v => v
  | d + 1, v => if v ∈ S then mexF S d (v + 1) else v
def mex (S : List Int) : Int := mexF S 64 0
theorem mexF_eq {S : List Int} {v : Nat} (hin : ∀ j : Nat, j < v → (j : Int) ∈ S) (hout : (v : Int) ∉ S) : ∀ (d w : Nat), w ≤ v → v - w ≤ d → mexF S d (w : Int) = v
  | 0, w, h1, h2 => by rw [mexF]; omega
  | d + 1, w, h1, h2 => by
    rw [mexF]
    by_cases e : w = v
    · rw [e, if_neg hout]
    · rw [if_pos (hin w (by omega))]
      exact mexF_eq hin hout d (w + 1) (by omega) (by omega)
theorem mex_eq {S : List Int} {v : Nat} (hin : ∀ j : Nat, j < v → (j : Int) ∈ S) (hout : (v : Int) ∉ S) (h : v ≤ 64) : mex S = v := mexF_eq hin hout 64 0 (by omega) (by omega)
theorem pigeon : ∀ (n : Nat) (S : List Int), (∀ j : Nat, j < n → (j : Int) ∈ S) → n ≤ S.length
  | 0, S, _ => Nat.zero_le _
  | n + 1, S, h => by
    have h1 := pigeon n (S.erase (n : Int)) (fun j hj => (List.mem_erase_of_ne (by omega)).2 (h j (by omega)))
    have h2 := List.length_erase_of_mem (h n (by omega))
    have h3 := List.length_pos_of_mem (h n (by omega))
    omega
theorem least_ex (S : List Int) : ∀ d : Nat, (∃ v : Nat, v ≤ d ∧ (v : Int) ∉ S) → ∃ V : Nat, V ≤ d ∧ (V : Int) ∉ S ∧ ∀ j : Nat, j < V → (j : Int) ∈ S
  | 0, ⟨v, h1, h2⟩ => ⟨v, h1, h2, fun j hj => by omega⟩
  | d + 1, ⟨v, h1, h2⟩ => by
    by_cases h : ∃ v : Nat, v ≤ d ∧ (v : Int) ∉ S
    · obtain ⟨V, a, b, c⟩ := least_ex S d h
      exact ⟨V, by omega, b, c⟩
    · refine ⟨v, h1, h2, fun j hj => ?_⟩
      by_cases hj2 : (j : Int) ∈ S
      · exact hj2
      · exact absurd ⟨j, by omega, hj2⟩ h
theorem mex_ex (S : List Int) (hl : S.length ≤ 60) : ∃ V : Nat, V ≤ S.length ∧ mex S = V ∧ (V : Int) ∉ S ∧ ∀ j : Nat, j < V → (j : Int) ∈ S := by
  obtain ⟨V, a, b, c⟩ := least_ex S S.length (by
    refine Classical.byContradiction fun h => ?_
    have := pigeon (S.length + 1) S (fun j hj => Classical.byContradiction fun hn => h ⟨j, by omega, hn⟩)
    omega)
  exact ⟨V, a, mex_eq c b (by omega), b, c⟩
def lgs (a : Int) (q : Int × Int) : Int := if a < q.2 + 1 then q.2 + 1 else a
def qks (a : Int) (q : Int × Int) : Int := if q.1 = 0 ∧ (a < 0 ∨ q.2 + 1 < a) then q.2 + 1 else a
def own (fs : List (Int × Int)) : Int × Int := (mex (fs.map (·.1)), if fs.foldl qks (-1) ≥ 0 then fs.foldl qks (-1) else fs.foldl lgs 0)
def nx (l m : List Int) : List Int := bit l (rd m 0) (rd m 1)
def F : Nat → List Int → Int × Int
  | 0, _ => (0, 0)
  | n + 1, l => own ((mv l).map (fun m => F n (nx l m)))
theorem F_eq (n : Nat) (l : List Int) : F (n + 1) l = own ((mv l).map (fun m => F n (nx l m))) := by rw [F]
def fate (l : List Int) : Int × Int := F (39 + 1) l
theorem nx_ok {l m : List Int} (hok : ok6 l) (hm : m ∈ mv l) : ok6 (nx l m) ∧ sm (nx l m) < sm l := by
  obtain ⟨a, y, rfl, hy, h0, h1, _⟩ := mv_mem hm
  exact ⟨bit_ok hok h0, sm_bit hok hy h1⟩
theorem F_stable : ∀ (n k : Nat) (l : List Int), ok6 l → sm l < n → sm l < k → F n l = F k l
  | 0, k, l, hok, h1, h2 => by have := (sm_36 hok).1; omega
  | n + 1, 0, l, hok, h1, h2 => by have := (sm_36 hok).1; omega
  | n + 1, k + 1, l, hok, h1, h2 => by
    rw [F, F]
    congr 1
    refine List.map_congr_left fun m hm => ?_
    have := nx_ok hok hm
    exact F_stable n k _ this.1 (by omega) (by omega)
theorem fate_eq {l : List Int} (hok : ok6 l) : fate l = own ((mv l).map (fun m => fate (nx l m))) := by
  have h36 := sm_36 hok
  unfold fate
  rw [F_eq 39 l]
  have e : ∀ m ∈ mv l, F 39 (nx l m) = F (39 + 1) (nx l m) := fun m hm => by
    have h1 := nx_ok hok hm
    have h2 := sm_36 h1.1
    exact F_stable 39 (39 + 1) _ h1.1 (by omega) (by omega)
  exact congrArg own (List.map_congr_left e)
theorem fold_lgs : ∀ (fs : List (Int × Int)) (a B : Int), 0 ≤ a → a ≤ B → (∀ q ∈ fs, 0 ≤ q.2 ∧ q.2 + 1 ≤ B) → 0 ≤ fs.foldl lgs a ∧ fs.foldl lgs a ≤ B
  | [], a, B, h0, h1, _ => ⟨h0, h1⟩
  | q :: r, a, B, h0, h1, h => by
    rw [List.foldl_cons]
    have hq := h q (by simp)
    exact fold_lgs r _ B (by unfold lgs; split <;> omega) (by unfold lgs; split <;> omega) (fun p hp => h p (by simp [hp]))
theorem fold_qks : ∀ (fs : List (Int × Int)) (a B : Int), -1 ≤ a → a ≤ B → (∀ q ∈ fs, 0 ≤ q.2 ∧ q.2 + 1 ≤ B) → -1 ≤ fs.foldl qks a ∧ fs.foldl qks a ≤ B
  | [], a, B, h0, h1, _ => ⟨h0, h1⟩
  | q :: r, a, B, h0, h1, h => by
    rw [List.foldl_cons]
    have hq := h q (by simp)
    exact fold_qks r _ B (by unfold qks; split <;> omega) (by unfold qks; split <;> omega) (fun p hp => h p (by simp [hp]))
theorem F_in : ∀ (n : Nat) (l : List Int), ok6 l → (0 ≤ (F n l).1 ∧ (F n l).1 ≤ 36) ∧ 0 ≤ (F n l).2 ∧ (F n l).2 ≤ n
  | 0, l, _ => by simp [F]
  | n + 1, l, hok => by
    have ih : ∀ q ∈ (mv l).map (fun m => F n (nx l m)), 0 ≤ q.2 ∧ q.2 + 1 ≤ (n + 1 : Nat) := fun q hq => by
      obtain ⟨m, hm, rfl⟩ := List.mem_map.1 hq
      have := F_in n _ (nx_ok hok hm).1
      omega
    have h1 := fold_lgs _ 0 ((n + 1 : Nat) : Int) (by omega) (by omega) ih
    have h2 := fold_qks _ (-1) ((n + 1 : Nat) : Int) (by omega) (by omega) ih
    have hl := mv_len hok
    obtain ⟨V, hV, hmx, _, _⟩ := mex_ex (((mv l).map (fun m => F n (nx l m))).map (·.1)) (by simp; omega)
    simp only [List.length_map] at hV
    rw [F]
    unfold own
    simp only
    rw [hmx]
    refine ⟨by omega, ?_⟩
    split <;> omega
theorem fate_in {l : List Int} (hok : ok6 l) : (0 ≤ (fate l).1 ∧ (fate l).1 ≤ 36) ∧ 0 ≤ (fate l).2 ∧ (fate l).2 ≤ 40 := by
  have h := F_in (39 + 1) l hok
  unfold fate
  generalize F (39 + 1) l = q at h
  omega
end Go.Proofs.YtnmibkkchgagbaaDoor.PFate
namespace Go.Proofs.YtnmibkkchgagbaaDoor.PAll
open Go.RowKit Go.Proofs.YtnmibkkchgagbaaDoor.All Go.Proofs.YtnmibkkchgagbaaDoorW.PrintWords Go.Proofs.YtnmibkkchgagbaaDoorW.PrintLast Go.Proofs.YtnmibkkchgagbaaDoor.PEv Go.Proofs.YtnmibkkchgagbaaDoor.PChomp Go.Proofs.YtnmibkkchgagbaaDoor.PFate
set_option linter.unusedVariables false
set_option linter.unusedSimpArgs false

/-- Rows that do not grow, each of one to w squares. -/
def chn : Int → List Int → Prop
  | _, [] => True
  | w, x :: t => 1 ≤ x ∧ x ≤ w ∧ chn x t
def tl : Nat → Nat → List (List Int)
  | 0, _ => [[]]
  | h + 1, w => [] :: (List.range w).flatMap fun (i : Nat) => (tl h (i + 1)).map (fun t => ((i : Int) + 1) :: t)
theorem mem_tl : ∀ (h : Nat) (w : Nat) (c : List Int), c ∈ tl h w ↔ c.length ≤ h ∧ chn w c
  | 0, w, c => by
    rw [tl, List.mem_singleton]
    constructor
    · rintro rfl
      exact ⟨Nat.le_refl _, trivial⟩
    · rintro ⟨h, _⟩
      exact List.eq_nil_of_length_eq_zero (by omega)
  | h + 1, w, c => by
    rw [tl, List.mem_cons, List.mem_flatMap]
    constructor
    · rintro (rfl | ⟨i, hi, hc⟩)
      · exact ⟨Nat.zero_le _, trivial⟩
      · obtain ⟨t, ht, rfl⟩ := List.mem_map.1 hc
        have h1 := (mem_tl h (i + 1) t).1 ht
        have h2 := List.mem_range.1 hi
        exact ⟨by rw [List.length_cons]; omega, by omega, by omega, h1.2⟩
    · rintro ⟨h1, h2⟩
      cases c with
      | nil => exact .inl rfl
      | cons x t =>
        obtain ⟨a, b, d⟩ := h2
        refine .inr ⟨(x - 1).toNat, List.mem_range.2 (by omega), List.mem_map.2 ⟨t, (mem_tl h _ t).2 ⟨by simpa using h1, ?_⟩, ?_⟩⟩
        · rw [show (((x - 1).toNat + 1 : Nat) : Int) = x by omega]
          exact d
        · rw [show (((x - 1).toNat : Nat) : Int) + 1 = x by omega]
theorem tl_len : ∀ (h w : Nat), w ≤ 6 → (tl h w).length ≤ 7 ^ h
  | 0, w, _ => by simp [tl]
  | h + 1, w, hw => by
    have key : ∀ (n : Nat), n ≤ 6 → ((List.range n).flatMap fun (i : Nat) => (tl h (i + 1)).map (fun t => ((i : Int) + 1) :: t)).length ≤ n * 7 ^ h := by
      intro n
      induction n with
      | zero => intro _; simp
      | succ n ih =>
        intro hn
        have h1 := tl_len h (n + 1) hn
        have h2 := ih (by omega)
        rw [List.range_succ, List.flatMap_append, List.length_append, Nat.succ_mul]
        simp only [List.flatMap_cons, List.flatMap_nil, List.append_nil, List.length_map]
        omega
    have h1 := key w hw
    have h2 : w * 7 ^ h ≤ 6 * 7 ^ h := Nat.mul_le_mul_right _ hw
    have h3 : 1 ≤ 7 ^ h := Nat.pow_pos (by omega)
    rw [tl, List.length_cons, Nat.pow_succ]
    omega
/-- The number of a chomp: its rows as digits. -/
def kvr : Nat → List Int → Int
  | 0, _ => 0
  | _ + 1, [] => 0
  | r + 1, x :: t => x * 7 ^ r + kvr r t
theorem p7 (r : Nat) : (1 : Int) ≤ 7 ^ r := by
  have : (0 : Int) < 7 ^ r := Int.pow_pos (show (0 : Int) < 7 by omega)
  omega
theorem kvr_lt : ∀ (r : Nat) (c : List Int) (w : Int), chn w c → w ≤ 6 → 0 ≤ kvr r c ∧ kvr r c < 7 ^ r
  | 0, c, w, _, _ => by simp [kvr]
  | r + 1, [], w, _, _ => by
    have := p7 (r + 1)
    rw [kvr]
    omega
  | r + 1, x :: t, w, h, hw => by
    obtain ⟨h1, h2, h3⟩ := h
    have ih := kvr_lt r t x h3 (by omega)
    have hp := p7 r
    have h4 : x * 7 ^ r ≤ 6 * 7 ^ r := Int.mul_le_mul_of_nonneg_right (by omega) (by omega)
    have h5 : 0 ≤ x * 7 ^ r := Int.mul_nonneg (by omega) (by omega)
    rw [kvr, Int.pow_succ]
    omega
theorem kvr_pos {r : Nat} {x : Int} {t : List Int} (h : chn 6 (x :: t)) : 0 < kvr (r + 1) (x :: t) := by
  obtain ⟨h1, h2, h3⟩ := h
  have ih := kvr_lt r t x h3 h2
  have hp := p7 r
  have h5 : 1 * 7 ^ r ≤ x * 7 ^ r := Int.mul_le_mul_of_nonneg_right h1 (by omega)
  rw [kvr]
  omega
theorem chn_mono : ∀ {c : List Int} {w w' : Int}, chn w c → w ≤ w' → chn w' c
  | [], _, _, _, _ => trivial
  | x :: t, _, _, h, hw => ⟨h.1, by have := h.2.1; omega, h.2.2⟩
theorem chn_mem : ∀ {c : List Int} {w : Int}, chn w c → ∀ n ∈ c, 1 ≤ n ∧ n ≤ w
  | [], _, _, n, hn => by simp at hn
  | x :: t, w, h, n, hn => by
    rcases List.mem_cons.1 hn with rfl | hn
    · exact ⟨h.1, h.2.1⟩
    · have := chn_mem h.2.2 n hn
      have := h.2.1
      omega
theorem sorted : ∀ (h w r : Nat), h ≤ r → w ≤ 6 → (tl h w).Pairwise (fun a b => kvr r a < kvr r b)
  | 0, w, r, _, _ => by simp [tl]
  | h + 1, w, r, hr, hw => by
    obtain ⟨r, rfl⟩ : ∃ q, r = q + 1 := ⟨r - 1, by omega⟩
    rw [tl, List.pairwise_cons]
    have hin : ∀ i, i < w → ∀ x ∈ (tl h (i + 1)).map (fun t => ((i : Int) + 1) :: t), chn 6 x ∧ ∃ t, x = ((i : Int) + 1) :: t ∧ chn ((i : Int) + 1) t := fun i hi x hx => by
      obtain ⟨t, ht, rfl⟩ := List.mem_map.1 hx
      have h1 := ((mem_tl h (i + 1) t).1 ht).2
      exact ⟨⟨by omega, by omega, h1⟩, t, rfl, h1⟩
    constructor
    · intro b hb
      obtain ⟨i, hi, hx⟩ := List.mem_flatMap.1 hb
      obtain ⟨h1, t, rfl, _⟩ := hin i (List.mem_range.1 hi) b hx
      exact kvr_pos h1
    · rw [List.pairwise_flatMap]
      constructor
      · intro i hi
        have := List.mem_range.1 hi
        rw [List.pairwise_map]
        refine (sorted h (i + 1) r (by omega) (by omega)).imp (fun hab => ?_)
        rw [kvr, kvr]
        omega
      · refine List.pairwise_lt_range.imp_of_mem (fun {i j} hi hj hij x hx y hy => ?_)
        have hi := List.mem_range.1 hi
        have hj := List.mem_range.1 hj
        obtain ⟨_, t, rfl, h1⟩ := hin i hi x hx
        obtain ⟨_, s, rfl, h2⟩ := hin j hj y hy
        have a1 := kvr_lt r t _ h1 (by omega)
        have a2 := kvr_lt r s _ h2 (by omega)
        have a3 : ((i : Int) + 1 + 1) * 7 ^ r ≤ ((j : Int) + 1) * 7 ^ r := Int.mul_le_mul_of_nonneg_right (by omega) (by have := p7 r; omega)
        rw [Int.add_mul] at a3
        rw [kvr, kvr]
        omega
/-- All chomps that fit into a bar, in order. -/
def allC (w h : Nat) : List (List Int) := (tl h w).drop 1
theorem mem_all {w h : Nat} {c : List Int} : c ∈ allC w h ↔ c ≠ [] ∧ c.length ≤ h ∧ chn w c := by
  unfold allC
  cases h with
  | zero =>
    simp only [tl, List.drop_succ_cons, List.drop_nil, List.not_mem_nil, false_iff]
    rintro ⟨h1, h2, _⟩
    exact h1 (List.eq_nil_of_length_eq_zero (by omega))
  | succ h =>
    have h0 := mem_tl (h + 1) w c
    rw [tl, List.mem_cons] at h0
    simp only [tl, List.drop_succ_cons, List.drop_zero]
    constructor
    · intro hc
      refine ⟨?_, h0.1 (.inr hc)⟩
      rintro rfl
      obtain ⟨i, _, hx⟩ := List.mem_flatMap.1 hc
      simp at hx
    · rintro ⟨h1, h2⟩
      exact (h0.2 h2).resolve_left h1
def kv (c : List Int) : Int := kvr 6 c
theorem all_sorted {w h : Nat} (hw : w ≤ 6) (hh : h ≤ 6) : (allC w h).Pairwise (fun a b => kv a < kv b) := (sorted h w 6 hh hw).sublist (List.drop_sublist _ _)
theorem all_len {w h : Nat} (hw : w ≤ 6) (hh : h ≤ 6) : (allC w h).length ≤ 117649 := by
  have h1 := tl_len h w hw
  have h2 : 7 ^ h ≤ 7 ^ 6 := Nat.pow_le_pow_right (by omega) hh
  unfold allC
  rw [List.length_drop]
  omega
theorem all_ok6 {w h : Nat} (hw : w ≤ 6) (hh : h ≤ 6) {c : List Int} (hc : c ∈ allC w h) : ok6 c := by
  obtain ⟨_, h1, h2⟩ := mem_all.1 hc
  exact ⟨by omega, fun n hn => by have := chn_mem h2 n hn; omega⟩
/-- What a walk lists. -/
def hd (b : List Int) : List (List Int) := if b = [] then [] else [b]
def lk : Nat → Nat → List Int → List (List Int)
  | 0, _, b => hd b
  | h + 1, w, b => hd b ++ (List.range w).flatMap fun (i : Nat) => lk h (i + 1) (b ++ [(i : Int) + 1])
theorem lk_eq : ∀ (h w : Nat) (b : List Int), b ≠ [] → lk h w b = (tl h w).map (fun t => b ++ t)
  | 0, w, b, hb => by simp [lk, hd, hb, tl]
  | h + 1, w, b, hb => by
    rw [lk, tl, hd, if_neg hb, List.map_cons, List.append_nil, List.map_flatMap, List.cons_append, List.nil_append]
    congr 1
    refine congrArg (fun f => (List.range w).flatMap f) (funext fun (i : Nat) => ?_)
    rw [lk_eq h (i + 1) _ (by simp), List.map_map]
    refine List.map_congr_left (fun t _ => ?_)
    simp
theorem lk_nil (h w : Nat) : lk h w [] = allC w h := by
  unfold allC
  cases h with
  | zero => simp [lk, hd, tl]
  | succ h =>
    rw [lk, hd, if_pos rfl, List.nil_append, tl, List.drop_succ_cons, List.drop_zero]
    refine congrArg (fun f => (List.range w).flatMap f) (funext fun (i : Nat) => ?_)
    rw [lk_eq h (i + 1) _ (by simp)]
    refine List.map_congr_left (fun t _ => ?_)
    simp
/-! ### a bite -/
theorem mnx_in {a x : Int} (ha : 0 ≤ a) (hx : 1 ≤ x) : 0 ≤ mnx a x ∧ mnx a x ≤ x := by
  unfold mnx
  split <;> omega
theorem kvr_map (a : Int) (ha : 0 ≤ a) : ∀ (r : Nat) (t : List Int) (w : Int), chn w t → kvr r (t.map (mnx a)) ≤ kvr r t
  | 0, t, w, _ => by simp [kvr]
  | r + 1, [], w, _ => by simp [kvr]
  | r + 1, x :: t, w, h => by
    have ih := kvr_map a ha r t x h.2.2
    have h1 := mnx_in ha h.1
    have hp := p7 r
    have h2 : mnx a x * 7 ^ r ≤ x * 7 ^ r := Int.mul_le_mul_of_nonneg_right h1.2 (by omega)
    rw [List.map_cons, kvr, kvr]
    omega
theorem chn_map (a : Int) (ha : 1 ≤ a) : ∀ (t : List Int) (w : Int), chn w t → chn (mnx a w) (t.map (mnx a))
  | [], w, _ => trivial
  | x :: t, w, h => by
    obtain ⟨h1, h2, h3⟩ := h
    refine ⟨?_, ?_, chn_map a ha t x h3⟩
    · unfold mnx
      split <;> omega
    · unfold mnx
      split <;> split <;> omega
theorem filter_pos : ∀ (t : List Int) (w : Int), chn w t → t.filter (fun n => !(n == 0)) = t
  | [], w, _ => rfl
  | x :: t, w, h => by
    have := h.1
    rw [List.filter_cons_of_pos (by simp; omega), filter_pos t x h.2.2]
theorem filter_zero : ∀ (t : List Int) (w : Int), chn w t → (t.map (mnx 0)).filter (fun n => !(n == 0)) = []
  | [], w, _ => rfl
  | x :: t, w, h => by
    have := h.1
    have e : mnx 0 x = 0 := by
      unfold mnx
      rw [if_pos (by omega)]
    rw [List.map_cons, List.filter_cons_of_neg (by simp [e]), filter_zero t x h.2.2]
theorem bit_facts : ∀ (c : List Int) (y : Nat) (w : Int) (r : Nat) (a : Int), chn w c → w ≤ 6 → c.length ≤ r → y < c.length → 0 ≤ a → a < c.getD y 0 →
    chn w ((c.take y ++ (c.drop y).map (mnx a)).filter (fun n => !(n == 0))) ∧ ((c.take y ++ (c.drop y).map (mnx a)).filter (fun n => !(n == 0))).length ≤ c.length ∧
    kvr r ((c.take y ++ (c.drop y).map (mnx a)).filter (fun n => !(n == 0))) < kvr r c ∧ ((c.take y ++ (c.drop y).map (mnx a)).filter (fun n => !(n == 0)) = [] → y = 0 ∧ a = 0)
  | [], y, w, r, a, _, _, _, hy, _, _ => by simp at hy
  | x :: t, 0, w, r, a, hc, hw, hr, hy, ha, hlt => by
    obtain ⟨r, rfl⟩ : ∃ q, r = q + 1 := ⟨r - 1, by rw [List.length_cons] at hr; omega⟩
    have hlt : a < x := by simpa using hlt
    rw [List.take_zero, List.nil_append, List.drop_zero]
    by_cases h0 : a = 0
    · subst h0
      rw [filter_zero _ w hc]
      exact ⟨trivial, by simp, kvr_pos (chn_mono hc hw), fun _ => ⟨rfl, rfl⟩⟩
    · have h1 := chn_map a (by omega) (x :: t) w hc
      rw [filter_pos _ _ h1]
      refine ⟨chn_mono h1 ?_, by simp, ?_, by simp⟩
      · unfold mnx
        split <;> omega
      · have h2 := kvr_map a ha r t x hc.2.2
        have e : mnx a x = a := by
          unfold mnx
          rw [if_pos hlt]
        have hp := p7 r
        have h3 : (a + 1) * 7 ^ r ≤ x * 7 ^ r := Int.mul_le_mul_of_nonneg_right (by omega) (by omega)
        rw [Int.add_mul] at h3
        rw [List.map_cons, kvr, kvr, e]
        omega
  | x :: t, y + 1, w, r, a, hc, hw, hr, hy, ha, hlt => by
    obtain ⟨r, rfl⟩ : ∃ q, r = q + 1 := ⟨r - 1, by rw [List.length_cons] at hr; omega⟩
    obtain ⟨h1, h2, h3⟩ := hc
    obtain ⟨i1, i2, i3, i4⟩ := bit_facts t y x r a h3 (by omega) (by simpa using hr) (by simpa using hy) ha (by simpa using hlt)
    rw [List.take_succ_cons, List.drop_succ_cons, List.cons_append, List.filter_cons_of_pos (by simp; omega)]
    refine ⟨⟨h1, h2, i1⟩, by simpa using i2, ?_, by simp⟩
    rw [kvr, kvr]
    omega
theorem closed {w h : Nat} (hw : w ≤ 6) (hh : h ≤ 6) {c m : List Int} (hc : c ∈ allC w h) (hm : m ∈ mv c) : nx c m ∈ allC w h ∧ kv (nx c m) < kv c := by
  obtain ⟨h1, h2, h3⟩ := mem_all.1 hc
  obtain ⟨a, y, rfl, hy, ha, hlt, hz⟩ := mv_mem hm
  have hlt' : a < c.getD y 0 := by simpa [rd] using hlt
  obtain ⟨i1, i2, i3, i4⟩ := bit_facts c y w 6 a h3 (by omega) (by omega) hy ha hlt'
  have e : nx c [a, (y : Int)] = (c.take y ++ (c.drop y).map (mnx a)).filter (fun n => !(n == 0)) := by
    show bit c a (y : Int) = _
    unfold bit
    rw [Int.toNat_natCast]
  rw [e]
  exact ⟨mem_all.2 ⟨fun h => by have := i4 h; omega, by omega, i1⟩, i3⟩
/-- In order: all bites lead to chomps that come before. -/
theorem before {w h : Nat} (hw : w ≤ 6) (hh : h ≤ 6) {p q : List (List Int)} {c m : List Int} (e : allC w h = p ++ c :: q) (hm : m ∈ mv c) : nx c m ∈ p := by
  have hs := all_sorted hw hh
  have hc : c ∈ allC w h := by rw [e]; simp
  obtain ⟨h1, h2⟩ := closed hw hh hc hm
  rw [e] at hs h1
  rw [List.pairwise_append, List.pairwise_cons] at hs
  rcases List.mem_append.1 h1 with h1 | h1
  · exact h1
  · rcases List.mem_cons.1 h1 with h1 | h1
    · rw [h1] at h2
      omega
    · have := hs.2.1.1 _ h1
      omega
end Go.Proofs.YtnmibkkchgagbaaDoor.PAll
namespace Go.Proofs.YtnmibkkchgagbaaDoor.PHeaps
open Go.RowKit Go.Proofs.YtnmibkkchgagbaaDoor.All Go.Proofs.YtnmibkkchgagbaaDoorW.PrintWords Go.Proofs.YtnmibkkchgagbaaDoorW.PrintLast Go.Proofs.YtnmibkkchgagbaaDoor.PEv Go.Proofs.YtnmibkkchgagbaaDoor.PChomp Go.Proofs.YtnmibkkchgagbaaDoor.PFate Go.Proofs.YtnmibkkchgagbaaDoor.PAll
set_option linter.unusedVariables false
set_option linter.unusedSimpArgs false

theorem kvr_nil : ∀ r, kvr r [] = 0
  | 0 => rfl
  | _ + 1 => rfl
theorem kvr_in : ∀ (r : Nat) (c : List Int), (∀ n ∈ c, 0 ≤ n ∧ n ≤ 6) → 0 ≤ kvr r c ∧ kvr r c < 7 ^ r
  | 0, c, _ => by simp [kvr]
  | r + 1, [], _ => by
    have := p7 (r + 1)
    rw [kvr]
    omega
  | r + 1, x :: t, h => by
    have ih := kvr_in r t (fun n hn => h n (by simp [hn]))
    have hx := h x (by simp)
    have hp := p7 r
    have h4 : x * 7 ^ r ≤ 6 * 7 ^ r := Int.mul_le_mul_of_nonneg_right (by omega) (by omega)
    have h5 : 0 ≤ x * 7 ^ r := Int.mul_nonneg (by omega) (by omega)
    rw [kvr, Int.pow_succ]
    omega
theorem kv_in {c : List Int} (h : ok6 c) : 0 ≤ kv c ∧ kv c < 117649 := by
  have := kvr_in 6 c (fun n hn => by have := h.2 n hn; omega)
  have e : (7 : Int) ^ 6 = 117649 := by decide
  rw [e] at this
  exact this
theorem key_go {l : List Int} (hok : ok6 l) : ∀ (d i : Nat) (key : Int), i + d = 6 → 0 ≤ key → key < 7 ^ i → Ev (fun k => spec_cmKey.l0 k l key (i : Int)) (key * 7 ^ d + kvr d (l.drop i))
  | 0, i, key, h, h0, h1 => by
    have hi : i = 6 := by omega
    subst hi
    refine Ev.step (f := fun _ => some key) (fun k => ?_) (by
      have e : key * 7 ^ 0 + kvr 0 (l.drop 6) = key := by rw [kvr]; simp
      rw [e]
      exact Ev.now _)
    simp only [spec_cmKey.l0]
    rw [if_neg (by omega)]
  | d + 1, i, key, h, h0, h1 => by
    have h7 : (7 : Int) ^ i ≤ 16807 := by
      obtain rfl | rfl | rfl | rfl | rfl | rfl : i = 0 ∨ i = 1 ∨ i = 2 ∨ i = 3 ∨ i = 4 ∨ i = 5 := by omega
      all_goals decide
    have hw7 : wrap64 (key * 7) = key * 7 := wrap_in (by omega) (by omega)
    have hwi : wrap64 ((i : Int) + 1) = ((i + 1 : Nat) : Int) := by rw [wrap_in (x := (i : Int) + 1) (by omega) (by omega)]; omega
    by_cases hl : i < l.length
    · have hb := rd_in hok (i := (i : Int)) (by omega) (by omega)
      have hwk : wrap64 (key * 7 + rd l (i : Int)) = key * 7 + rd l (i : Int) := wrap_in (by omega) (by omega)
      have er : rd l (i : Int) = l[i] := by simp [rd, List.getD_eq_getElem?_getD, hl]
      have e : key * 7 ^ (d + 1) + kvr (d + 1) (l.drop i) = (key * 7 + rd l (i : Int)) * 7 ^ d + kvr d (l.drop (i + 1)) := by
        rw [List.drop_eq_getElem_cons hl, kvr, er, Int.add_mul, Int.mul_assoc, Int.pow_succ, Int.mul_comm (7 ^ d) 7]
        omega
      rw [e]
      refine Ev.step (f := fun k => spec_cmKey.l0 k l (key * 7 + rd l (i : Int)) ((i + 1 : Nat) : Int)) (fun k => ?_) (key_go hok d (i + 1) _ (by omega) (by omega) (by rw [Int.pow_succ]; omega))
      simp only [spec_cmKey.l0]
      rw [if_pos (by omega), if_pos (by omega), if_pos (by omega), hw7, hwk, hwi]
    · have e : key * 7 ^ (d + 1) + kvr (d + 1) (l.drop i) = (key * 7) * 7 ^ d + kvr d (l.drop (i + 1)) := by
        rw [List.drop_of_length_le (by omega), List.drop_of_length_le (by omega), kvr_nil, kvr_nil, Int.mul_assoc, Int.pow_succ, Int.mul_comm (7 ^ d) 7]
      rw [e]
      refine Ev.step (f := fun k => spec_cmKey.l0 k l (key * 7) ((i + 1 : Nat) : Int)) (fun k => ?_) (key_go hok d (i + 1) _ (by omega) (by omega) (by rw [Int.pow_succ]; omega))
      simp only [spec_cmKey.l0]
      rw [if_pos (by omega), if_neg (by omega), hw7, hwi]
theorem key_ev {l : List Int} (hok : ok6 l) : Ev (fun k => spec_cmKey.f k l) (kv l) := by
  have h := key_go hok 6 0 0 (by omega) (by omega) (by decide)
  have e : (0 : Int) * 7 ^ 6 + kvr 6 (l.drop 0) = kv l := by simp [kv]
  rw [e] at h
  exact Ev.congr (fun k => rfl) h

/-! ### the table -/
def put (T : List Int) (r : List Int) : List Int := T.set (kv r).toNat ((fate r).1 + 1)
def tb (L : List (List Int)) : List Int := L.foldl put (List.replicate 117649 0)
theorem put_len (T r) : (put T r).length = T.length := by simp [put]
theorem fold_len : ∀ (L : List (List Int)) (T : List Int), (L.foldl put T).length = T.length
  | [], T => rfl
  | r :: L, T => by rw [List.foldl_cons, fold_len L, put_len]
theorem tb_len (L : List (List Int)) : (tb L).length = 117649 := by
  unfold tb
  rw [fold_len, List.length_replicate]
theorem tb_snoc (L : List (List Int)) (r : List Int) : tb (L ++ [r]) = put (tb L) r := by
  unfold tb
  rw [List.foldl_append]
  rfl
theorem put_at {T : List Int} {r s : List Int} (hs : kv s ≠ kv r) (h0 : 0 ≤ kv s) (h1 : 0 ≤ kv r) : (put T r).getD (kv s).toNat 0 = T.getD (kv s).toNat 0 := by
  unfold put
  rw [List.getD_eq_getElem?_getD, List.getElem?_set_ne (by omega), ← List.getD_eq_getElem?_getD]
theorem fold_at : ∀ (L : List (List Int)) (T : List Int) (s : List Int), (∀ r ∈ L, kv r ≠ kv s ∧ 0 ≤ kv r) → 0 ≤ kv s → (L.foldl put T).getD (kv s).toNat 0 = T.getD (kv s).toNat 0
  | [], T, s, _, _ => rfl
  | r :: L, T, s, h, h0 => by
    rw [List.foldl_cons, fold_at L _ s (fun q hq => h q (by simp [hq])) h0, put_at (fun e => (h r (by simp)).1 e.symm) h0 (h r (by simp)).2]
/-- What the table says. -/
theorem tb_at {L : List (List Int)} (hok : ∀ r ∈ L, ok6 r) (hs : L.Pairwise (fun a b => kv a < kv b)) {s : List Int} (hm : s ∈ L) : (tb L).getD (kv s).toNat 0 = (fate s).1 + 1 := by
  obtain ⟨p, q, rfl⟩ := List.append_of_mem hm
  rw [List.pairwise_append, List.pairwise_cons] at hs
  have h0 := kv_in (hok s (by simp))
  unfold tb
  rw [List.foldl_append, List.foldl_cons, fold_at q _ s (fun r hr => ⟨fun e => by have := hs.2.1.1 r hr; omega, (kv_in (hok r (by simp [hr]))).1⟩) h0.1]
  have hl : (p.foldl put (List.replicate 117649 0)).length = 117649 := by rw [fold_len, List.length_replicate]
  generalize p.foldl put (List.replicate 117649 0) = T at hl ⊢
  unfold put
  rw [List.getD_eq_getElem?_getD, List.getElem?_set_self (by omega), Option.getD_some]
theorem tb_take {L : List (List Int)} (hok : ∀ r ∈ L, ok6 r) (hs : L.Pairwise (fun a b => kv a < kv b)) {i : Nat} {s : List Int} (hm : s ∈ L.take i) : (tb (L.take i)).getD (kv s).toNat 0 = (fate s).1 + 1 :=
  tb_at (fun r hr => hok r (List.mem_of_mem_take hr)) (hs.sublist (List.take_sublist _ _)) hm
theorem nx_take {w h : Nat} (hw : w ≤ 6) (hh : h ≤ 6) {i : Nat} (hi : i < (allC w h).length) {m : List Int} (hm : m ∈ mv (allC w h)[i]) : nx (allC w h)[i] m ∈ (allC w h).take i := by
  refine before hw hh (p := (allC w h).take i) (q := (allC w h).drop (i + 1)) (c := (allC w h)[i]) ?_ hm
  rw [← List.drop_eq_getElem_cons hi, List.take_append_drop]
/-! ### which heaps have been seen -/
def seenL (fs : List Int) : List Bool := (List.range 37).map (fun (x : Nat) => decide ((x : Int) ∈ fs))
theorem seen_len (fs : List Int) : (seenL fs).length = 37 := by simp [seenL]
theorem seen_nil : seenL [] = List.replicate 37 false := by decide
theorem seen_at (fs : List Int) {x : Nat} (h : x < 37) : (seenL fs).getD x false = decide ((x : Int) ∈ fs) := by
  unfold seenL
  rw [List.getD_eq_getElem?_getD, List.getElem?_map, List.getElem?_range h]
  rfl
theorem seen_put (fs : List Int) {x : Nat} (h : x < 37) : (seenL fs).set x true = seenL (fs ++ [(x : Int)]) := by
  apply List.ext_getElem?
  intro j
  unfold seenL
  by_cases e : j = x
  · subst e
    rw [List.getElem?_set_self (by simpa using h), List.getElem?_map, List.getElem?_range h]
    simp
  · rw [List.getElem?_set_ne (by omega), List.getElem?_map, List.getElem?_map]
    by_cases hj : j < 37
    · rw [List.getElem?_range hj]
      have e2 : (j : Int) ≠ (x : Int) := by omega
      simp [e2]
    · rw [List.getElem?_eq_none (by simpa using hj)]
      rfl
end Go.Proofs.YtnmibkkchgagbaaDoor.PHeaps
