/- The law FnExactBreakStrip, of the printed functions alone. Conditions: as each law states them. -/
import Derived.Test.YtjchngehbngghaaAx14
import Derived.Test.YtjchngehbngghaaPStrips
import Derived.Test.YtjchngehbngghaaPInt
namespace Go.Proofs.Ytjchngehbngghaa.Pure
open Go.RowKit Go.Proofs.Ytjchngehbngghaa.All Go.Proofs.YtjchngehbngghaaW.PrintWords Go.Proofs.YtjchngehbngghaaW.PrintLast Go.Proofs.Ytjchngehbngghaa.PEv Go.Proofs.Ytjchngehbngghaa.PStrip Go.Proofs.Ytjchngehbngghaa.PMoves Go.Proofs.Ytjchngehbngghaa.PValues Go.Proofs.Ytjchngehbngghaa.PStrips Go.Proofs.Ytjchngehbngghaa.PCopy
set_option linter.unusedSimpArgs false
set_option linter.unusedVariables false

namespace XBreak
def good (l : List Int) (i a b : Int) (u : Bool) : Prop := ok l = true ∧ (1 ≤ b ∧ b ≤ 60) ∧ (l.length : Int) ≠ 8 ∧ (0 ≤ i ∧ i ≤ (l.length : Int) - 1) ∧ (1 ≤ a ∧ a ≤ rd l i - 1) ∧ can b u (rd l i) a = true
instance (l : List Int) (i a b : Int) (u : Bool) : Decidable (good l i a b u) := by unfold good; infer_instance
def bres (l : List Int) (i a b : Int) (u : Bool) : List Int × Bool := if good l i a b u then (l.set i.toNat a ++ [rd l i - a], true) else ([], false)
theorem bres_length (l : List Int) (hl : l.length ≤ 2000000) (i a b : Int) (u : Bool) : (bres l i a b u).1.length ≤ 4000000 := by
  unfold bres
  split
  · simp; omega
  · simp
theorem spec_b (l : List Int) (hl : l.length ≤ 2000000) (i a b : Int) (u : Bool) : Ev (fun k => spec_BreakStrip.f k l i a b u) (bres l i a b u) := by
  have h1 := laStrips_ev l (by omega) b
  unfold bres
  simp only [spec_BreakStrip.f]
  by_cases h : ok l = true ∧ (1 ≤ b ∧ b ≤ 60)
  · rw [h.1, decide_eq_true h.2, Bool.true_and] at h1
    have hm := ok_mem h.1
    refine Ev.bind h1 (pos rfl ?_)
    by_cases h8 : (l.length : Int) = 8
    · refine pos h8 ?_
      rw [if_neg (show ¬ good l i a b u from fun g => g.2.2.1 h8)]
      exact Ev.now _
    · refine neg h8 ?_
      simp only [l1In_eq, Option.bind_some]
      rw [wrap_in (x := (l.length : Int) - 1) (by omega) (by omega)]
      by_cases hi : 0 ≤ i ∧ i ≤ (l.length : Int) - 1
      · have hx := hm.2.2 i hi.1 (by omega)
        refine pos (decide_eq_true hi) (pos hi.1 (pos (by omega) ?_))
        rw [wrap_in (x := rd l i - 1) (by omega) (by omega)]
        by_cases ha : 1 ≤ a ∧ a ≤ rd l i - 1
        · refine pos (decide_eq_true ha) ?_
          rw [laCan_eq b u (rd l i) a hx (by omega)]
          simp only [Option.bind_some]
          cases hc : can b u (rd l i) a with
          | true =>
            rw [if_pos (show good l i a b u from ⟨h.1, h.2, h8, hi, ha, hc⟩)]
            refine pos rfl ?_
            have hown : spec_l1Own.f l = some l := by
              unfold spec_l1Own.f
              simp only [Option.bind_some, List.nil_append]
              rw [if_pos (by simp; omega)]
            rw [hown]
            simp only [Option.bind_some]
            refine pos (by omega) (pos (by rw [List.length_set]; omega) ?_)
            rw [wrap_in (x := rd l i - a) (by omega) (by omega)]
            exact Ev.now _
          | false =>
            rw [if_neg (show ¬ good l i a b u from fun g => by have := g.2.2.2.2.2; rw [hc] at this; cases this)]
            exact neg (by simp) (Ev.now _)
        · rw [if_neg (show ¬ good l i a b u from fun g => ha g.2.2.2.2.1)]
          exact neg (by rw [decide_eq_false ha]; simp) (Ev.now _)
      · rw [if_neg (show ¬ good l i a b u from fun g => hi g.2.2.2.1)]
        exact neg (by rw [decide_eq_false hi]; simp) (Ev.now _)
  · rw [show (ok l && decide (1 ≤ b ∧ b ≤ 60)) = false by
      rw [Bool.and_eq_false_iff]
      by_cases h2 : ok l = true
      · exact .inr (decide_eq_false (fun h3 => h ⟨h2, h3⟩))
      · exact .inl (by simpa using h2)] at h1
    rw [if_neg (show ¬ good l i a b u from fun g => h ⟨g.1, g.2.1⟩)]
    exact Ev.bind h1 (neg (by simp) (Ev.now _))
theorem can_in {b : Int} {u : Bool} {n a : Int} (h : can b u n a = true) : b ≤ a ∧ b ≤ n - a := by
  unfold can at h
  simp only [Bool.and_eq_true, decide_eq_true_eq] at h
  exact h.1
theorem impl_b (l : List Int) (hl : l.length ≤ 2000000) (i a b : Int) (u : Bool) : impl_BreakStrip.f l i a b u = some (bres l i a b u) := by
  unfold bres
  simp only [impl_BreakStrip.f, areStrips_eq, isStrip, within_eq, Option.bind_some]
  cases h0 : ok l with
  | false => rw [if_neg (by simp), if_neg (show ¬ good l i a b u from fun g => by have := g.1; rw [h0] at this; cases this)]
  | true =>
    have hm := ok_mem h0
    rw [if_pos rfl]
    by_cases hb : 1 ≤ b ∧ b ≤ 60
    · rw [if_pos (decide_eq_true hb), wrap_in (x := (l.length : Int) - 1) (by omega) (by omega)]
      by_cases hi : 0 ≤ i ∧ i ≤ (l.length : Int) - 1
      · have hx := hm.2.2 i hi.1 (by omega)
        rw [if_pos (decide_eq_true hi)]
        by_cases h8 : (l.length : Int) = 8
        · rw [if_pos h8, if_neg (show ¬ good l i a b u from fun g => g.2.2.1 h8)]
        · rw [if_neg h8]
          by_cases ha : 1 ≤ a ∧ a ≤ 60
          · rw [if_pos (decide_eq_true ha), if_pos hi.1, if_pos (by omega), can_eq b u (rd l i) a hx (by omega)]
            simp only [Option.bind_some]
            cases hc : can b u (rd l i) a with
            | true =>
              have hci := can_in hc
              rw [if_pos rfl, if_pos (show good l i a b u from ⟨h0, hb, h8, hi, by omega, hc⟩)]
              simp only [slices_Clone_int_int.f]
              rw [if_pos (show l.length < 17592186044416 by omega)]
              simp only [Option.bind_some]
              rw [if_pos (by simp; omega), if_pos (by simp; omega), wrap_in (x := rd l i - a) (by omega) (by omega), List.set_append_left _ _ (by omega)]
            | false =>
              rw [if_neg (by simp), if_neg (show ¬ good l i a b u from fun g => by have := g.2.2.2.2.2; rw [hc] at this; cases this)]
          · rw [if_neg (by rw [decide_eq_false ha]; simp), if_neg (show ¬ good l i a b u from fun g => ha (by have := g.2.2.2.2.1; omega))]
      · rw [if_neg (by rw [decide_eq_false hi]; simp), if_neg (show ¬ good l i a b u from fun g => hi g.2.2.2.1)]
    · rw [if_neg (by rw [decide_eq_false hb]; simp), if_neg (show ¬ good l i a b u from fun g => hb g.2.1)]
end XBreak
theorem FnExactBreakStrip : laws_FnExactBreakStrip.Pure := by
  intro l i a b u _ _ _ _ _ _
  refine Ev.rounds (r := true) ?_
  unfold laws_FnExactBreakStrip.f
  by_cases hl : (l.length : Int) > 1048576
  · exact pos hl (Ev.now _)
  · have hc := copy_ev l (by omega)
    have hs := XBreak.spec_b l (by omega) i a b u
    have hi := XBreak.impl_b l (by omega) i a b u
    have hrl := XBreak.bres_length l (by omega) i a b u
    generalize XBreak.bres l i a b u = R at hs hi hrl
    have he := PInt.eqS R.1 hrl
    have hel := PInt.eqS l (by omega)
    obtain ⟨m, y, hm0, hm1, hm2⟩ := PInt.marked R.1 hrl
    obtain ⟨ml, yl, hml0, hml1, hml2⟩ := PInt.marked l (by omega)
    refine neg hl (Ev.bind hc (Ev.bind hs (Ev.bind hc ?_)))
    rw [hi]
    simp only [Option.bind_some]
    refine Ev.bind he (pos rfl ?_)
    refine Ev.step (f := fun k => (laws_toIntS.f k l).bind fun t302 => (laws_eqIntS.f k l t302).bind fun t305 => if t305 = true then ((laws_markIntS.f k l 1).bind fun bt306 => if bt306.1 < 0 then laws_FnExactBreakStrip.j1 k l i a b u R.1 R.2 R.1 true else ((laws_eqIntS.f k R.1 R.1).bind fun t308 => if t308 = true then laws_FnExactBreakStrip.j1 k l i a b u R.1 R.2 R.1 (R.2 != R.2) else laws_FnExactBreakStrip.j1 k l i a b u R.1 R.2 R.1 true)) else some false) (fun k => by simp only [laws_FnExactBreakStrip.j0]; rw [if_neg (by simp)]) ?_
    refine Ev.bind hc (Ev.bind hel (pos rfl (Ev.bind hml1 (neg (show ¬ ml < 0 by omega) (Ev.bind he (pos rfl ?_))))))
    refine Ev.step (f := fun k => (laws_markIntS.f k R.1 1).bind fun bt309 => (laws_heldIntS.f k bt309.2 1).bind fun t311 => if t311 < 0 then some false else (if t311 = bt309.1 then ((laws_toIntS.f k l).bind fun t312 => (impl_BreakStrip.f t312 i a b u).bind fun bt315 => (laws_eqIntS.f k bt315.1 R.1).bind fun t319 => if t319 = true then laws_FnExactBreakStrip.j2 k bt309.2 bt309.1 (bt315.2 != R.2) else laws_FnExactBreakStrip.j2 k bt309.2 bt309.1 true) else some false)) (fun k => by simp only [laws_FnExactBreakStrip.j1]; rw [if_neg (by simp)]) ?_
    refine Ev.bind hm1 (Ev.bind hm2 (neg (show ¬ m < 0 by omega) (pos rfl (Ev.bind hc ?_))))
    rw [hi]
    simp only [Option.bind_some]
    refine Ev.bind he (pos rfl ?_)
    refine Ev.step (f := fun k => (laws_heldIntS.f k y 1).bind fun t => (if t < 0 then (some false) else (if t = m then (some true) else (some false)))) (fun k => by simp only [laws_FnExactBreakStrip.j2]; rw [if_neg (by simp)]) ?_
    exact Ev.bind hm2 (neg (show ¬ m < 0 by omega) (pos rfl (Ev.now _)))

end Go.Proofs.Ytjchngehbngghaa.Pure
