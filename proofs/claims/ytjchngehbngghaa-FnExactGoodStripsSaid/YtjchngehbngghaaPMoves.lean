/- Plain facts on strips: the places of moves, of the printed functions. Conditions: as each law states them. -/
import Derived.Test.YtjchngehbngghaaAx2
import Derived.Test.YtjchngehbngghaaPStrip
namespace Go.Proofs.Ytjchngehbngghaa.PMoves
open Go.RowKit Go.Proofs.Ytjchngehbngghaa.All Go.Proofs.YtjchngehbngghaaW.PrintWords Go.Proofs.YtjchngehbngghaaW.PrintLast Go.Proofs.Ytjchngehbngghaa.PEv Go.Proofs.Ytjchngehbngghaa.PStrip
set_option linter.unusedSimpArgs false
set_option linter.unusedVariables false
theorem can_eq (least : Int) (u : Bool) (n i : Int) (hn : 1 ≤ n ∧ n ≤ 60) (hi : 1 ≤ i ∧ i ≤ 100) : impl_rule_can.f least u n i = some (can least u n i) := by
  unfold impl_rule_can.f can
  rw [wrap_in (x := n - i) (by omega) (by omega), wrap_in (x := 2 * i) (by omega) (by omega)]
  by_cases h1 : i ≥ least
  · rw [if_pos h1, decide_eq_true (show least ≤ i from h1)]
    by_cases h2 : n - i ≥ least
    · rw [if_pos h2, decide_eq_true (show least ≤ n - i from h2)]
      cases u
      · rfl
      · by_cases h3 : 2 * i = n
        · simp [h3]
        · simp [h3]
    · rw [if_neg h2, decide_eq_false (show ¬ least ≤ n - i from h2)]; rfl
  · rw [if_neg h1, decide_eq_false (show ¬ least ≤ i from h1)]; rfl
theorem laCan_eq (least : Int) (u : Bool) (n i : Int) (hn : 1 ≤ n ∧ n ≤ 60) (hi : 1 ≤ i ∧ i ≤ 100) : spec_laCan.f n i least u = some (can least u n i) := by
  unfold spec_laCan.f can
  rw [wrap_in (x := n - i) (by omega) (by omega)]
  have hb : (i != n - i) = decide (2 * i ≠ n) := by
    by_cases h3 : 2 * i = n
    · rw [show n - i = i by omega]; simp [h3]
    · have : i ≠ n - i := by omega
      simp [this, h3]
  by_cases h1 : i ≥ least
  · rw [if_pos h1, decide_eq_true (show least ≤ i from h1)]
    by_cases h2 : n - i ≥ least
    · rw [if_pos h2, decide_eq_true (show least ≤ n - i from h2), hb]
      cases u
      · rfl
      · rfl
    · rw [if_neg h2, decide_eq_false (show ¬ least ≤ n - i from h2)]; rfl
  · rw [if_neg h1, decide_eq_false (show ¬ least ≤ i from h1)]; rfl
theorem moves_l (least : Int) (u : Bool) (n : Int) (hn : 1 ≤ n ∧ n ≤ 60) : ∀ (d : Nat) (i : Int) (acc : List Int), 1 ≤ i → i + d ≤ 100 → n < 2 * (i + d) → acc.length + d ≤ 1000 → Ev (fun k => impl_rule_moves.l0 k n acc i least u) (acc ++ mvs least u n d i) := by
  intro d
  induction d with
  | zero =>
    intro i acc h1 h2 h3 h4
    rw [mvs, List.append_nil]
    refine Ev.step (f := fun _ => some acc) (fun k => ?_) (Ev.now _)
    simp only [impl_rule_moves.l0]
    rw [wrap_in (by omega) (by omega), if_neg (by omega)]
  | succ d ih =>
    intro i acc h1 h2 h3 h4
    rw [mvs]
    by_cases hc : 2 * i ≤ n
    · rw [if_pos hc]
      cases hcan : can least u n i with
      | true =>
        rw [if_pos rfl]
        have := ih (i + 1) (acc ++ [i]) (by omega) (by omega) (by omega) (by simp; omega)
        rw [List.append_assoc, List.singleton_append] at this
        refine Ev.step (f := fun k => impl_rule_moves.l0 k n (acc ++ [i]) (i + 1) least u) (fun k => ?_) this
        simp only [impl_rule_moves.l0]
        rw [wrap_in (x := 2 * i) (by omega) (by omega), if_pos hc, can_eq least u n i hn (by omega), hcan, wrap_in (x := i + 1) (by omega) (by omega)]
        simp only [Option.bind_some, if_true]
        rw [if_pos (by omega)]
      | false =>
        rw [if_neg (by simp)]
        have := ih (i + 1) acc (by omega) (by omega) (by omega) (by omega)
        refine Ev.step (f := fun k => impl_rule_moves.l0 k n acc (i + 1) least u) (fun k => ?_) this
        simp only [impl_rule_moves.l0]
        rw [wrap_in (x := 2 * i) (by omega) (by omega), if_pos hc, can_eq least u n i hn (by omega), hcan, wrap_in (x := i + 1) (by omega) (by omega)]
        simp
    · rw [if_neg hc, List.append_nil]
      refine Ev.step (f := fun _ => some acc) (fun k => ?_) (Ev.now _)
      simp only [impl_rule_moves.l0]
      rw [wrap_in (by omega) (by omega), if_neg hc]
theorem moves_ev (least : Int) (u : Bool) (n : Int) (hn : 1 ≤ n ∧ n ≤ 60) : Ev (fun k => impl_rule_moves.f k least u n) (mvs least u n 60 1) := by
  have := moves_l least u n hn 60 1 [] (by omega) (by omega) (by omega) (by simp)
  rw [List.nil_append] at this
  exact Ev.congr (fun k => rfl) this
theorem isStrip (a : Int) : impl_isStrip.f a = some (decide (1 ≤ a ∧ a ≤ 60)) := by
  unfold impl_isStrip.f impl_within.f
  by_cases h : 1 ≤ a
  · simp [h]
  · simp [h]
theorem laStrip (a b : Int) : spec_laStrip.f a b = some (decide ((1 ≤ a ∧ a ≤ 60) ∧ (1 ≤ b ∧ b ≤ 60))) := by
  unfold spec_laStrip.f spec_l1In.f
  by_cases h : 1 ≤ a
  · by_cases h2 : a ≤ 60
    · by_cases h3 : 1 ≤ b
      · simp [h, h2, h3]
      · simp [h, h2, h3]
    · simp [h, h2]
  · simp [h]

end Go.Proofs.Ytjchngehbngghaa.PMoves
