/- The law FnExactLostStrips, of the printed functions alone. Conditions: as each law states them. -/
import Derived.Test.YtjchngehbngghaaAx15
import Derived.Test.YtjchngehbngghaaPValues
import Derived.Test.YtjchngehbngghaaPInt
namespace Go.Proofs.Ytjchngehbngghaa.Pure
open Go.RowKit Go.Proofs.Ytjchngehbngghaa.All Go.Proofs.YtjchngehbngghaaW.PrintWords Go.Proofs.YtjchngehbngghaaW.PrintLast Go.Proofs.Ytjchngehbngghaa.PEv Go.Proofs.Ytjchngehbngghaa.PStrip Go.Proofs.Ytjchngehbngghaa.PMoves Go.Proofs.Ytjchngehbngghaa.PValues
set_option linter.unusedSimpArgs false
set_option linter.unusedVariables false

/-- The places from i at which a list has 0, but place 0. -/
def zeros (l : List Int) : Nat → Int → List Int
  | 0, _ => []
  | d + 1, i => if 0 < i ∧ rd l i = 0 then i :: zeros l d (i + 1) else zeros l d (i + 1)
theorem zeros_length (l : List Int) : ∀ (d : Nat) (i : Int), (zeros l d i).length ≤ d
  | 0, _ => by simp [zeros]
  | d + 1, i => by
    have := zeros_length l d (i + 1)
    rw [zeros]
    split
    · simp; omega
    · omega
def lstrips (a b : Int) (u : Bool) : List Int × Bool := if (1 ≤ a ∧ a ≤ 60) ∧ (1 ≤ b ∧ b ≤ 60) then (zeros (vs b u a.toNat) (vs b u a.toNat).length 0, true) else ([], false)
theorem lstrips_length (a b : Int) (u : Bool) : (lstrips a b u).1.length ≤ 4000000 := by
  unfold lstrips
  split
  · rename_i h
    have hl := vs_length b u a.toNat
    exact Nat.le_trans (zeros_length _ _ _) (by omega)
  · simp

theorem spec_zeros (l : List Int) (hl : l.length ≤ 1000) : ∀ (d : Nat) (i : Int) (acc : List Int), 0 ≤ i → i + d = (l.length : Int) → acc.length + d ≤ 1000 → Ev (fun k => spec_LostStrips.l0 k acc l (l.length : Int) i) (acc ++ zeros l d i, true) := by
  intro d
  induction d with
  | zero =>
    intro i acc h1 h2 h3
    rw [zeros, List.append_nil]
    refine Ev.step (f := fun _ => some (acc, true)) (fun k => ?_) (Ev.now _)
    simp only [spec_LostStrips.l0]
    rw [if_neg (by omega)]
  | succ d ih =>
    intro i acc h1 h2 h3
    rw [zeros]
    by_cases h4 : 0 < i
    · by_cases h5 : rd l i = 0
      · rw [if_pos ⟨h4, h5⟩]
        have := ih (i + 1) (acc ++ [i]) (by omega) (by omega) (by simp; omega)
        rw [List.append_assoc, List.singleton_append] at this
        refine Ev.step (f := fun k => spec_LostStrips.l0 k (acc ++ [i]) l (l.length : Int) (i + 1)) (fun k => ?_) this
        simp only [spec_LostStrips.l0]
        rw [if_pos (by omega), if_pos (by omega), if_pos (by omega), if_pos h4, if_pos h5, if_pos (by omega), wrap_in (x := i + 1) (by omega) (by omega)]
      · rw [if_neg (fun h => h5 h.2)]
        refine Ev.step (f := fun k => spec_LostStrips.l0 k acc l (l.length : Int) (i + 1)) (fun k => ?_) (ih (i + 1) acc (by omega) (by omega) (by omega))
        simp only [spec_LostStrips.l0]
        rw [if_pos (by omega), if_pos (by omega), if_pos (by omega), if_pos h4, if_neg h5, wrap_in (x := i + 1) (by omega) (by omega)]
    · rw [if_neg (fun h => h4 h.1)]
      refine Ev.step (f := fun k => spec_LostStrips.l0 k acc l (l.length : Int) (i + 1)) (fun k => ?_) (ih (i + 1) acc (by omega) (by omega) (by omega))
      simp only [spec_LostStrips.l0]
      rw [if_pos (by omega), if_pos (by omega), if_pos (by omega), if_neg h4, wrap_in (x := i + 1) (by omega) (by omega)]

theorem impl_zeros (l : List Int) (hl : l.length ≤ 1000) : ∀ (d : Nat) (i : Int) (acc : List Int), 0 ≤ i → i + d = (l.length : Int) → acc.length + d ≤ 1000 → Ev (fun k => impl_LostStrips.l0 k acc l (l.length : Int) i) (acc ++ zeros l d i, true) := by
  intro d
  induction d with
  | zero =>
    intro i acc h1 h2 h3
    rw [zeros, List.append_nil]
    refine Ev.step (f := fun _ => some (acc, true)) (fun k => ?_) (Ev.now _)
    simp only [impl_LostStrips.l0]
    rw [if_neg (by omega)]
  | succ d ih =>
    intro i acc h1 h2 h3
    rw [zeros]
    by_cases h4 : 0 < i
    · by_cases h5 : rd l i = 0
      · rw [if_pos ⟨h4, h5⟩]
        have := ih (i + 1) (acc ++ [i]) (by omega) (by omega) (by simp; omega)
        rw [List.append_assoc, List.singleton_append] at this
        refine Ev.step (f := fun k => impl_LostStrips.l0 k (acc ++ [i]) l (l.length : Int) (i + 1)) (fun k => ?_) this
        simp only [impl_LostStrips.l0]
        rw [if_pos (by omega), if_pos (by omega), if_pos (by omega), if_pos h4, if_pos h5, if_pos (by omega), wrap_in (x := i + 1) (by omega) (by omega)]
      · rw [if_neg (fun h => h5 h.2)]
        refine Ev.step (f := fun k => impl_LostStrips.l0 k acc l (l.length : Int) (i + 1)) (fun k => ?_) (ih (i + 1) acc (by omega) (by omega) (by omega))
        simp only [impl_LostStrips.l0]
        rw [if_pos (by omega), if_pos (by omega), if_pos (by omega), if_pos h4, if_neg h5, wrap_in (x := i + 1) (by omega) (by omega)]
    · rw [if_neg (fun h => h4 h.1)]
      refine Ev.step (f := fun k => impl_LostStrips.l0 k acc l (l.length : Int) (i + 1)) (fun k => ?_) (ih (i + 1) acc (by omega) (by omega) (by omega))
      simp only [impl_LostStrips.l0]
      rw [if_pos (by omega), if_pos (by omega), if_pos (by omega), if_neg h4, wrap_in (x := i + 1) (by omega) (by omega)]

theorem spec_lstrips (a b : Int) (u : Bool) : Ev (fun k => spec_LostStrips.f k a b u) (lstrips a b u) := by
  unfold lstrips
  by_cases h : (1 ≤ a ∧ a ≤ 60) ∧ (1 ≤ b ∧ b ≤ 60)
  · rw [if_pos h]
    have hl := vs_length b u a.toNat
    have := spec_zeros (vs b u a.toNat) (by omega) (vs b u a.toNat).length 0 [] (by omega) (by omega) (by simp; omega)
    rw [List.nil_append] at this
    simp only [spec_LostStrips.f, laStrip, decide_eq_true h, Option.bind_some, if_true]
    exact Ev.bind (laValues_ev a b u h.1) this
  · rw [if_neg h]
    simp only [spec_LostStrips.f, laStrip, decide_eq_false h, Option.bind_some, Bool.false_eq_true, if_false]
    exact Ev.now _
theorem impl_lstrips (a b : Int) (u : Bool) : Ev (fun k => impl_LostStrips.f k a b u) (lstrips a b u) := by
  unfold lstrips
  simp only [impl_LostStrips.f, isStrip, Option.bind_some]
  by_cases h1 : 1 ≤ a ∧ a ≤ 60
  · by_cases h2 : 1 ≤ b ∧ b ≤ 60
    · rw [if_pos ⟨h1, h2⟩]
      have hl := vs_length b u a.toNat
      have := impl_zeros (vs b u a.toNat) (by omega) (vs b u a.toNat).length 0 [] (by omega) (by omega) (by simp; omega)
      rw [List.nil_append] at this
      simp only [decide_eq_true h1, decide_eq_true h2, if_true]
      refine Ev.step (f := fun k => (impl_rule_values.f k b u a).bind fun t => impl_LostStrips.l0 k [] t (t.length : Int) 0) (fun k => ?_) (Ev.bind (values_ev a b u (by omega)) this)
      simp only [impl_LostStrips.j0]
      rw [if_neg (by simp)]
    · rw [if_neg (fun h => h2 h.2)]
      simp only [decide_eq_true h1, decide_eq_false h2, if_true]
      refine Ev.step (f := fun _ => some ([], false)) (fun k => ?_) (Ev.now _)
      simp only [impl_LostStrips.j0]
      rw [if_pos (by simp)]
  · rw [if_neg (fun h => h1 h.1)]
    simp only [decide_eq_false h1, Bool.false_eq_true, if_false]
    refine Ev.step (f := fun _ => some ([], false)) (fun k => ?_) (Ev.now _)
    simp only [impl_LostStrips.j0]
    rw [if_pos (by simp)]

theorem FnExactLostStrips : laws_FnExactLostStrips.Pure := by
  intro a b u _ _
  refine Ev.rounds (r := true) ?_
  have hs := spec_lstrips a b u
  have hi := impl_lstrips a b u
  have hl : (lstrips a b u).1.length ≤ 4000000 := lstrips_length a b u
  have he := PInt.eqS (lstrips a b u).1 hl
  obtain ⟨m, y, hm0, hm1, hm2⟩ := PInt.marked (lstrips a b u).1 hl
  unfold laws_FnExactLostStrips.f
  refine Ev.bind hs (Ev.bind hi (Ev.bind he (pos rfl ?_)))
  refine Ev.step (f := fun k => (laws_markIntS.f k (lstrips a b u).1 1).bind fun q => ((laws_heldIntS.f k q.2 1).bind fun t => (if t < 0 then (some false) else (if t = q.1 then ((impl_LostStrips.f k a b u).bind fun q4 => ((laws_eqIntS.f k q4.1 (lstrips a b u).1).bind fun t2 => (if t2 = true then (laws_FnExactLostStrips.j1 k q.2 q.1 (q4.2 != (lstrips a b u).2)) else (laws_FnExactLostStrips.j1 k q.2 q.1 true)))) else (some false))))) (fun k => by simp only [laws_FnExactLostStrips.j0]; rw [if_neg (by simp)]) ?_
  refine Ev.bind hm1 (Ev.bind hm2 (neg (show ¬ m < 0 by omega) (pos rfl ?_)))
  refine Ev.bind hi (Ev.bind he (pos rfl ?_))
  refine Ev.step (f := fun k => (laws_heldIntS.f k y 1).bind fun t => (if t < 0 then (some false) else (if t = m then (some true) else (some false)))) (fun k => by simp only [laws_FnExactLostStrips.j1]; rw [if_neg (by simp)]) ?_
  exact Ev.bind hm2 (neg (show ¬ m < 0 by omega) (pos rfl (Ev.now _)))

end Go.Proofs.Ytjchngehbngghaa.Pure
