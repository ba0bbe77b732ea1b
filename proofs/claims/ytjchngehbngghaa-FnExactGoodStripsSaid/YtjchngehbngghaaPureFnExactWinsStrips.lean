/- The law FnExactWinsStrips, of the printed functions alone. Conditions: as each law states them. -/
import Derived.Test.YtjchngehbngghaaAx15
import Derived.Test.YtjchngehbngghaaPStrips
import Derived.Test.YtjchngehbngghaaPInt
namespace Go.Proofs.Ytjchngehbngghaa.Pure
open Go.RowKit Go.Proofs.Ytjchngehbngghaa.All Go.Proofs.YtjchngehbngghaaW.PrintWords Go.Proofs.YtjchngehbngghaaW.PrintLast Go.Proofs.Ytjchngehbngghaa.PEv Go.Proofs.Ytjchngehbngghaa.PStrip Go.Proofs.Ytjchngehbngghaa.PMoves Go.Proofs.Ytjchngehbngghaa.PValues Go.Proofs.Ytjchngehbngghaa.PStrips Go.Proofs.Ytjchngehbngghaa.PCopy
set_option linter.unusedSimpArgs false
set_option linter.unusedVariables false

namespace XWins
theorem xor_small : ∀ i j : Fin 64, decide (0 ≤ Go.bits .xor .i64 (i.val : Int) (j.val : Int) ∧ Go.bits .xor .i64 (i.val : Int) (j.val : Int) < 64) = true := by decide +kernel
theorem xor_in {a b : Int} (ha : 0 ≤ a ∧ a < 64) (hb : 0 ≤ b ∧ b < 64) : 0 ≤ Go.bits .xor .i64 a b ∧ Go.bits .xor .i64 a b < 64 := by
  have h := xor_small ⟨a.toNat, by omega⟩ ⟨b.toNat, by omega⟩
  have e1 : ((a.toNat : Nat) : Int) = a := by omega
  have e2 : ((b.toNat : Nat) : Int) = b := by omega
  simp only [e1, e2, decide_eq_true_eq] at h
  exact h
theorem vs_in (least : Int) (u : Bool) : ∀ (m : Nat) (j : Int), 0 ≤ j → 0 ≤ rd (vs least u m) j ∧ rd (vs least u m) j < 64
  | 0, j, h => by
    rw [vs]
    unfold rd
    rw [List.getD_eq_getElem?_getD]
    cases e : j.toNat with
    | zero => simp
    | succ q => simp
  | m + 1, j, h => by
    obtain ⟨V, hV, hmx, _, _⟩ := mex_ex ((mvs least u ((m : Int) + 1) 60 1).map (xr (vs least u m) ((m : Int) + 1))) (by rw [List.length_map]; exact mvs_length _ _)
    rw [vs, rd_app h, hmx]
    split
    · exact vs_in least u m j h
    · split
      · omega
      · omega
/-- The values put together. -/
def alls (vl : List Int) : List Int → Int → Int
  | [], acc => acc
  | x :: r, acc => alls vl r (Go.bits .xor .i64 acc (rd vl x))
theorem alls_in (vl : List Int) (hv : ∀ j : Int, 0 ≤ j → 0 ≤ rd vl j ∧ rd vl j < 64) : ∀ (l : List Int) (acc : Int), (∀ x ∈ l, 0 ≤ x) → 0 ≤ acc ∧ acc < 64 → 0 ≤ alls vl l acc ∧ alls vl l acc < 64
  | [], acc, _, h => h
  | x :: r, acc, hl, h => alls_in vl hv r _ (fun y hy => hl y (by simp [hy])) (xor_in h (hv x (hl x (by simp))))

theorem sp_go (vl l : List Int) (hvl : vl.length = 61) (hl : ok l = true) : ∀ (d i : Nat) (acc : Int), i ≤ l.length → l.length - i = d → Ev (fun k => spec_laAll.l0 k vl acc l (l.length : Int) (i : Int)) (alls vl (l.drop i) acc) := by
  have hm := ok_mem hl
  intro d
  induction d with
  | zero =>
    intro i acc h1 h2
    rw [List.drop_of_length_le (by omega), alls]
    refine Ev.step (f := fun _ => some acc) (fun k => ?_) (Ev.now _)
    simp only [spec_laAll.l0]
    rw [if_neg (by omega)]
  | succ d ih =>
    intro i acc h1 h2
    have hi : i < l.length := by omega
    have er : rd l (i : Int) = l[i] := by simp [rd, List.getD_eq_getElem?_getD, hi]
    have hx := hm.2.2 (i : Int) (by omega) (by omega)
    rw [List.drop_eq_getElem_cons hi, alls]
    refine Ev.step (f := fun k => spec_laAll.l0 k vl (Go.bits .xor .i64 acc (rd vl l[i])) l (l.length : Int) ((i + 1 : Nat) : Int)) (fun k => ?_) (ih (i + 1) _ (by omega) (by omega))
    simp only [spec_laAll.l0]
    rw [if_pos (by omega), if_pos (by omega), if_pos (by omega), if_pos (by omega), if_pos (by omega), er, wrap_in (x := (i : Int) + 1) (by omega) (by omega)]
    rfl

theorem im_go (vl l : List Int) (hvl : vl.length = 61) (hl : ok l = true) : ∀ (d i : Nat) (acc : Int), i ≤ l.length → l.length - i = d → Ev (fun k => impl_together.l0 k vl acc l (l.length : Int) (i : Int)) (alls vl (l.drop i) acc) := by
  have hm := ok_mem hl
  intro d
  induction d with
  | zero =>
    intro i acc h1 h2
    rw [List.drop_of_length_le (by omega), alls]
    refine Ev.step (f := fun _ => some acc) (fun k => ?_) (Ev.now _)
    simp only [impl_together.l0]
    rw [if_neg (by omega)]
  | succ d ih =>
    intro i acc h1 h2
    have hi : i < l.length := by omega
    have er : rd l (i : Int) = l[i] := by simp [rd, List.getD_eq_getElem?_getD, hi]
    have hx := hm.2.2 (i : Int) (by omega) (by omega)
    rw [List.drop_eq_getElem_cons hi, alls]
    refine Ev.step (f := fun k => impl_together.l0 k vl (Go.bits .xor .i64 acc (rd vl l[i])) l (l.length : Int) ((i + 1 : Nat) : Int)) (fun k => ?_) (ih (i + 1) _ (by omega) (by omega))
    simp only [impl_together.l0]
    rw [if_pos (by omega), if_pos (by omega), if_pos (by omega), if_pos (by omega), if_pos (by omega), er, wrap_in (x := (i : Int) + 1) (by omega) (by omega)]
    rfl

def wres (l : List Int) (b : Int) (u : Bool) : Bool × Bool := if ok l = true ∧ (1 ≤ b ∧ b ≤ 60) then (alls (vs b u 60) l 0 != 0, true) else (false, false)
theorem spec_w (l : List Int) (hl : l.length ≤ 4000000) (b : Int) (u : Bool) : Ev (fun k => spec_WinsStrips.f k l b u) (wres l b u) := by
  have h1 := laStrips_ev l hl b
  unfold wres
  by_cases h : ok l = true ∧ (1 ≤ b ∧ b ≤ 60)
  · rw [h.1, decide_eq_true h.2, Bool.true_and] at h1
    rw [if_pos h]
    simp only [spec_WinsStrips.f]
    refine Ev.bind h1 (pos rfl (Ev.bind (laValues_ev 60 b u (by omega)) (Ev.bind (Ev.congr (fun k => rfl) (sp_go (vs b u 60) l (vs_length b u 60) h.1 l.length 0 0 (by omega) (by omega)) : Ev (fun k => spec_laAll.f k l (vs b u 60)) _) (Ev.now _))))
  · rw [show (ok l && decide (1 ≤ b ∧ b ≤ 60)) = false by
      rw [Bool.and_eq_false_iff]
      by_cases h2 : ok l = true
      · exact .inr (decide_eq_false (fun h3 => h ⟨h2, h3⟩))
      · exact .inl (by simpa using h2)] at h1
    rw [if_neg h]
    simp only [spec_WinsStrips.f]
    exact Ev.bind h1 (neg (by simp) (Ev.now _))
theorem impl_w (l : List Int) (b : Int) (u : Bool) : Ev (fun k => impl_WinsStrips.f k l b u) (wres l b u) := by
  unfold wres
  simp only [impl_WinsStrips.f, areStrips_eq, isStrip, Option.bind_some]
  cases h1 : ok l with
  | true =>
    by_cases h2 : 1 ≤ b ∧ b ≤ 60
    · rw [if_pos ⟨rfl, h2⟩]
      simp only [if_true, decide_eq_true h2]
      have ha := alls_in (vs b u 60) (vs_in b u 60) l 0 (fun x hx => by
        obtain ⟨i, hi, rfl⟩ := List.mem_iff_getElem.1 hx
        have := (ok_mem h1).2.2 (i : Int) (by omega) (by omega)
        have er : rd l (i : Int) = l[i] := by simp [rd, List.getD_eq_getElem?_getD, hi]
        omega) (by omega)
      refine Ev.step (f := fun k => (impl_rule_values.f k b u 60).bind fun t => (impl_together.f k l t).bind fun q => some (decide (q > 0), true)) (fun k => ?_) (Ev.bind (values_ev 60 b u (by omega)) (Ev.bind (Ev.congr (fun k => rfl) (im_go (vs b u 60) l (vs_length b u 60) h1 l.length 0 0 (by omega) (by omega)) : Ev (fun k => impl_together.f k l (vs b u 60)) _) (Ev.congr (fun k => ?_) (Ev.now _))))
      · simp only [impl_WinsStrips.j0]
        rw [if_neg (by simp)]
      · rw [List.drop_zero]
        have e : decide (alls (vs b u 60) l 0 > 0) = (alls (vs b u 60) l 0 != 0) := by
          by_cases h5 : alls (vs b u 60) l 0 = 0
          · simp [h5]
          · have : alls (vs b u 60) l 0 > 0 := by omega
            simp [h5, this]
        rw [e]
    · rw [if_neg (fun h => h2 h.2)]
      simp only [if_true, decide_eq_false h2]
      refine Ev.step (f := fun _ => some (false, false)) (fun k => ?_) (Ev.now _)
      simp only [impl_WinsStrips.j0]
      rw [if_pos (by simp)]
  | false =>
    rw [if_neg (fun h => by cases h.1)]
    simp only [Bool.false_eq_true, if_false]
    refine Ev.step (f := fun _ => some (false, false)) (fun k => ?_) (Ev.now _)
    simp only [impl_WinsStrips.j0]
    rw [if_pos (by simp)]
end XWins
theorem FnExactWinsStrips : laws_FnExactWinsStrips.Pure := by
  intro l b u _ _ _ _
  refine Ev.rounds (r := true) ?_
  unfold laws_FnExactWinsStrips.f
  by_cases hl : (l.length : Int) > 1048576
  · exact pos hl (Ev.now _)
  · have hc := copy_ev l (by omega)
    refine neg hl (Ev.bind hc (Ev.bind (XWins.spec_w l (by omega) b u) (Ev.bind hc (Ev.bind (XWins.impl_w l b u) ?_))))
    refine neg (by simp) ?_
    refine Ev.step (f := fun k => (laws_toIntS.f k l).bind fun t => (laws_eqIntS.f k l t).bind fun q => if q = true then some true else some false) (fun k => ?_) (Ev.bind hc (Ev.bind (PInt.eqS l (by omega)) (pos rfl (Ev.now _))))
    simp only [laws_FnExactWinsStrips.j0]
    rw [if_neg (by simp)]

end Go.Proofs.Ytjchngehbngghaa.Pure
