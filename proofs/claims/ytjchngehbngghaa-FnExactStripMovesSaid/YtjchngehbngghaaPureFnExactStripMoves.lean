/- The law FnExactStripMoves, of the printed functions alone. Conditions: as each law states them. -/
import Derived.Test.YtjchngehbngghaaAx12
import Derived.Test.YtjchngehbngghaaPMoves
import Derived.Test.YtjchngehbngghaaPInt
namespace Go.Proofs.Ytjchngehbngghaa.Pure
open Go.RowKit Go.Proofs.Ytjchngehbngghaa.All Go.Proofs.YtjchngehbngghaaW.PrintWords Go.Proofs.YtjchngehbngghaaW.PrintLast Go.Proofs.Ytjchngehbngghaa.PEv Go.Proofs.Ytjchngehbngghaa.PStrip Go.Proofs.Ytjchngehbngghaa.PMoves
set_option linter.unusedSimpArgs false
set_option linter.unusedVariables false

def smoves (a b : Int) (u : Bool) : List Int × Bool := if (1 ≤ a ∧ a ≤ 60) ∧ (1 ≤ b ∧ b ≤ 60) then (mvs b u a 60 1, true) else ([], false)
theorem smoves_length (a b : Int) (u : Bool) : (smoves a b u).1.length ≤ 4000000 := by
  unfold smoves
  split
  · exact Nat.le_trans (mvs_length _ _) (by omega)
  · simp
theorem spec_go (least : Int) (u : Bool) (n : Int) (hn : 1 ≤ n ∧ n ≤ 60) : ∀ (d : Nat) (i : Int) (acc : List Int), 1 ≤ i → i + d ≤ 100 → n < 2 * (i + d) → acc.length + d ≤ 1000 → Ev (fun k => spec_StripMoves.l0 k n least u acc i) (acc ++ mvs least u n d i, true) := by
  intro d
  induction d with
  | zero =>
    intro i acc h1 h2 h3 h4
    rw [mvs, List.append_nil]
    refine Ev.step (f := fun _ => some (acc, true)) (fun k => ?_) (Ev.now _)
    simp only [spec_StripMoves.l0]
    rw [wrap_in (by omega) (by omega), if_neg (by omega)]
  | succ d ih =>
    intro i acc h1 h2 h3 h4
    rw [mvs]
    by_cases hc : 2 * i ≤ n
    · rw [if_pos hc]
      cases hcan : can least u n i with
      | true =>
        rw [if_pos rfl]
        have := ih (i + 1) (acc ++ [i]) (by omega) (by omega) (by omega) (by simp; omega)
        rw [List.append_assoc, List.singleton_append] at this
        refine Ev.step (f := fun k => spec_StripMoves.l0 k n least u (acc ++ [i]) (i + 1)) (fun k => ?_) this
        simp only [spec_StripMoves.l0]
        rw [wrap_in (x := 2 * i) (by omega) (by omega), if_pos hc, laCan_eq least u n i hn (by omega), hcan, wrap_in (x := i + 1) (by omega) (by omega)]
        simp only [Option.bind_some, if_true]
        rw [if_pos (by omega)]
      | false =>
        rw [if_neg (by simp)]
        have := ih (i + 1) acc (by omega) (by omega) (by omega) (by omega)
        refine Ev.step (f := fun k => spec_StripMoves.l0 k n least u acc (i + 1)) (fun k => ?_) this
        simp only [spec_StripMoves.l0]
        rw [wrap_in (x := 2 * i) (by omega) (by omega), if_pos hc, laCan_eq least u n i hn (by omega), hcan, wrap_in (x := i + 1) (by omega) (by omega)]
        simp
    · rw [if_neg hc, List.append_nil]
      refine Ev.step (f := fun _ => some (acc, true)) (fun k => ?_) (Ev.now _)
      simp only [spec_StripMoves.l0]
      rw [wrap_in (by omega) (by omega), if_neg hc]
theorem spec_smoves (a b : Int) (u : Bool) : Ev (fun k => spec_StripMoves.f k a b u) (smoves a b u) := by
  unfold smoves
  by_cases h : (1 ≤ a ∧ a ≤ 60) ∧ (1 ≤ b ∧ b ≤ 60)
  · rw [if_pos h]
    have := spec_go b u a h.1 60 1 [] (by omega) (by omega) (by omega) (by simp)
    rw [List.nil_append] at this
    simp only [spec_StripMoves.f, laStrip, decide_eq_true h, Option.bind_some, if_true]
    exact this
  · rw [if_neg h]
    simp only [spec_StripMoves.f, laStrip, decide_eq_false h, Option.bind_some, Bool.false_eq_true, if_false]
    exact Ev.now _
theorem impl_smoves (a b : Int) (u : Bool) : Ev (fun k => impl_StripMoves.f k a b u) (smoves a b u) := by
  unfold smoves
  simp only [impl_StripMoves.f, isStrip, Option.bind_some]
  by_cases h1 : 1 ≤ a ∧ a ≤ 60
  · by_cases h2 : 1 ≤ b ∧ b ≤ 60
    · rw [if_pos ⟨h1, h2⟩]
      simp only [decide_eq_true h1, decide_eq_true h2, if_true]
      exact Ev.bind (moves_ev b u a h1) (Ev.now _)
    · rw [if_neg (fun h => h2 h.2)]
      simp only [decide_eq_true h1, decide_eq_false h2, if_true, Bool.false_eq_true, if_false]
      exact Ev.now _
  · rw [if_neg (fun h => h1 h.1)]
    simp only [decide_eq_false h1, Bool.false_eq_true, if_false]
    exact Ev.now _

theorem FnExactStripMoves : laws_FnExactStripMoves.Pure := by
  intro a b u _ _
  refine Ev.rounds (r := true) ?_
  have hs := spec_smoves a b u
  have hi := impl_smoves a b u
  have hl : (smoves a b u).1.length ≤ 4000000 := smoves_length a b u
  have he := PInt.eqS (smoves a b u).1 hl
  obtain ⟨m, y, hm0, hm1, hm2⟩ := PInt.marked (smoves a b u).1 hl
  unfold laws_FnExactStripMoves.f
  refine Ev.bind hs (Ev.bind hi (Ev.bind he (pos rfl ?_)))
  refine Ev.step (f := fun k => (laws_markIntS.f k (smoves a b u).1 1).bind fun q => ((laws_heldIntS.f k q.2 1).bind fun t => (if t < 0 then (some false) else (if t = q.1 then ((impl_StripMoves.f k a b u).bind fun q4 => ((laws_eqIntS.f k q4.1 (smoves a b u).1).bind fun t2 => (if t2 = true then (laws_FnExactStripMoves.j1 k q.2 q.1 (q4.2 != (smoves a b u).2)) else (laws_FnExactStripMoves.j1 k q.2 q.1 true)))) else (some false))))) (fun k => by simp only [laws_FnExactStripMoves.j0]; rw [if_neg (by simp)]) ?_
  refine Ev.bind hm1 (Ev.bind hm2 (neg (show ¬ m < 0 by omega) (pos rfl ?_)))
  refine Ev.bind hi (Ev.bind he (pos rfl ?_))
  refine Ev.step (f := fun k => (laws_heldIntS.f k y 1).bind fun t => (if t < 0 then (some false) else (if t = m then (some true) else (some false)))) (fun k => by simp only [laws_FnExactStripMoves.j1]; rw [if_neg (by simp)]) ?_
  exact Ev.bind hm2 (neg (show ¬ m < 0 by omega) (pos rfl (Ev.now _)))

end Go.Proofs.Ytjchngehbngghaa.Pure
