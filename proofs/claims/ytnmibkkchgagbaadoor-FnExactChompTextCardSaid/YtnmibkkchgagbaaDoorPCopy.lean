/- A copy of a list of whole numbers is the list; whether all numbers of a list lie between two others. Conditions: lists of at most four million elements. -/
import Derived.Test.YtnmibkkchgagbaaDoorAx2
import Derived.Test.YtnmibkkchgagbaaDoorPEv
namespace Go.Proofs.YtnmibkkchgagbaaDoor.PCopy
open Go.RowKit Go.Proofs.YtnmibkkchgagbaaDoor.All Go.Proofs.YtnmibkkchgagbaaDoorW.PrintWords Go.Proofs.YtnmibkkchgagbaaDoorW.PrintLast Go.Proofs.YtnmibkkchgagbaaDoor.PEv
theorem copy_go (l : List Int) (hl : l.length ≤ 4000000) : ∀ (d i : Nat) (x : List Int), x.length = l.length → i ≤ l.length → l.length - i = d → x.take i = l.take i → Ev (fun k => laws_toIntS.l0 k l x (i : Int)) l := by
  intro d
  induction d with
  | zero =>
    intro i x hx h1 h2 h3
    have e : x = l := by
      rw [show i = l.length by omega, List.take_length, List.take_of_length_le (by omega)] at h3
      exact h3
    subst e
    refine Ev.step (f := fun _ => some x) (fun k => ?_) (Ev.now _)
    simp only [laws_toIntS.l0]
    rw [if_neg (by omega)]
  | succ d ih =>
    intro i x hx h1 h2 h3
    have hi : i < l.length := by omega
    have er : rd l (i : Int) = l[i] := by simp [rd, List.getD_eq_getElem?_getD, hi]
    refine Ev.step (f := fun k => laws_toIntS.l0 k l (x.set i l[i]) ((i + 1 : Nat) : Int)) (fun k => ?_) (ih (i + 1) (x.set i l[i]) (by rw [List.length_set]; exact hx) (by omega) (by omega) ?_)
    · simp only [laws_toIntS.l0]
      rw [if_pos (by omega), if_pos (by omega), if_pos (by omega), er, wrap_in (x := (i : Int) + 1) (by omega) (by omega), Int.toNat_natCast]
      rfl
    · rw [List.take_succ_eq_append_getElem (by rw [List.length_set]; omega), List.take_succ_eq_append_getElem hi, List.take_set, List.set_eq_of_length_le (by rw [List.length_take]; omega), h3, List.getElem_set_self]
theorem copy_ev (l : List Int) (hl : l.length ≤ 4000000) : Ev (fun k => laws_toIntS.f k l) l := by
  refine Ev.congr (fun k => ?_) (copy_go l hl l.length 0 (List.replicate l.length 0) (by simp) (by omega) (by omega) (by simp))
  unfold laws_toIntS.f
  rw [if_pos (by omega), if_pos (by omega), Int.toNat_natCast]
  rfl
end Go.Proofs.YtnmibkkchgagbaaDoor.PCopy
