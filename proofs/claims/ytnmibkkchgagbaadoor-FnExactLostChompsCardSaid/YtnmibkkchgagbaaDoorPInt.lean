/- Copies of lists and their comparison: the printed functions answer as plain lists do. Conditions: as each law states them. -/
import Derived.Test.YtnmibkkchgagbaaDoorAx2
import Derived.Test.YtnmibkkchgagbaaDoorPEv
import Derived.Test.YtnmibkkchgagbaaDoorAx3
namespace Go.Proofs.YtnmibkkchgagbaaDoor.PCopy
open Go.RowKit Go.Proofs.YtnmibkkchgagbaaDoor.All Go.Proofs.YtnmibkkchgagbaaDoorW.PrintWords Go.Proofs.YtnmibkkchgagbaaDoorW.PrintLast Go.Proofs.YtnmibkkchgagbaaDoor.PEv
theorem copy_go (l : List Int) (hl : l.length ≤ 4000000) : ∀ (d i : Nat) (x : List Int), x.length = l.length → i ≤ l.length → l.length - i = d → x.take i = l.take i → Ev (fun k => laws_toIntS.l0 k l x (i : Int)) l := by
  intro d
  induction d with
  | zero =>
    intro i x hx h1 h2 h3
    have e : x = l := by
      rw [show i = l.length by omega, List.take_length, List.take_of_length_le (by omega)] at h3
      exact h3
    subst e
    refine Ev.step (f := fun _ => some x) (fun k => ?_) (Ev.now _)
    simp only [laws_toIntS.l0]
    rw [if_neg (by omega)]
  | succ d ih =>
    intro i x hx h1 h2 h3
    have hi : i < l.length := by omega
    have er : rd l (i : Int) = l[i] := by simp [rd, List.getD_eq_getElem?_getD, hi]
    refine Ev.step (f := fun k => laws_toIntS.l0 k l (x.set i l[i]) ((i + 1 : Nat) : Int)) (fun k => ?_) (ih (i + 1) (x.set i l[i]) (by rw [List.length_set]; exact hx) (by omega) (by omega) ?_)
    · simp only [laws_toIntS.l0]
      rw [if_pos (by omega), if_pos (by omega), if_pos (by omega), er, wrap_in (x := (i : Int) + 1) (by omega) (by omega), Int.toNat_natCast]
      rfl
    · rw [List.take_succ_eq_append_getElem (by rw [List.length_set]; omega), List.take_succ_eq_append_getElem hi, List.take_set, List.set_eq_of_length_le (by rw [List.length_take]; omega), h3, List.getElem_set_self]
theorem copy_ev (l : List Int) (hl : l.length ≤ 4000000) : Ev (fun k => laws_toIntS.f k l) l := by
  refine Ev.congr (fun k => ?_) (copy_go l hl l.length 0 (List.replicate l.length 0) (by simp) (by omega) (by omega) (by simp))
  unfold laws_toIntS.f
  rw [if_pos (by omega), if_pos (by omega), Int.toNat_natCast]
  rfl
end Go.Proofs.YtnmibkkchgagbaaDoor.PCopy
namespace Go.Proofs.YtnmibkkchgagbaaDoor.PInt
open Go.RowKit Go.Proofs.YtnmibkkchgagbaaDoor.All Go.Proofs.YtnmibkkchgagbaaDoorW.PrintWords Go.Proofs.YtnmibkkchgagbaaDoorW.PrintLast Go.Proofs.YtnmibkkchgagbaaDoor.PEv

theorem eq_self (l : List Int) (hl : l.length ≤ 4000000) : ∀ (d i : Nat), i ≤ l.length → l.length - i = d → Ev (fun k => laws_eqIntS.l0 k l l (i : Int)) true := by
  intro d
  induction d with
  | zero =>
    intro i h1 h2
    exact Ev.step (f := fun _ => some true) (fun k => by simp only [laws_eqIntS.l0]; rw [if_neg (by omega)]) (Ev.now true)
  | succ d ih =>
    intro i h1 h2
    refine Ev.step (f := fun k => laws_eqIntS.l0 k l l ((i + 1 : Nat) : Int)) (fun k => ?_) (ih (i + 1) (by omega) (by omega))
    simp only [laws_eqIntS.l0]
    rw [if_pos (by omega), if_pos (by omega), if_pos (by omega), wrap_in (by omega) (by omega)]
    simp
theorem eqS (l : List Int) (hl : l.length ≤ 4000000) : Ev (fun k => laws_eqIntS.f k l l) true :=
  Ev.congr (fun k => by unfold laws_eqIntS.f; rw [if_pos rfl]; rfl) (eq_self l hl l.length 0 (by omega) (by omega))
theorem mark_go (n : Nat) (hn : n ≤ 4000000) : ∀ (d i : Nat) (x : List Int), x.length = n → i ≤ n → n - i = d → (∀ j, j < i → x.getD j 0 = 1 + (j : Int)) →
    ∃ y : List Int, y.length = n ∧ (∀ j, j < n → y.getD j 0 = 1 + (j : Int)) ∧ Ev (fun k => laws_markIntS.l0 k x (1 + (i : Int)) (i : Int)) (1 + (n : Int), y) := by
  intro d
  induction d with
  | zero =>
    intro i x hx h1 h2 hm
    have hi : i = n := by omega
    subst hi
    exact ⟨x, hx, hm, Ev.step (f := fun _ => some (1 + (i : Int), x)) (fun k => by simp only [laws_markIntS.l0]; rw [if_neg (by omega)]) (Ev.now _)⟩
  | succ d ih =>
    intro i x hx h1 h2 hm
    have hs : ∀ (u : Int), ∀ j, j < i + 1 → (x.set i u).getD j 0 = if j = i then u else x.getD j 0 := by
      intro u j hj
      simp only [List.getD_eq_getElem?_getD]
      by_cases e : j = i
      · subst e; rw [if_pos rfl, List.getElem?_set_self (by omega)]; rfl
      · rw [if_neg e, List.getElem?_set_ne (by omega)]
    obtain ⟨y, hy1, hy2, hy3⟩ := ih (i + 1) (x.set i (1 + (i : Int))) (by simpa using hx) (by omega) (by omega) (fun j hj => by
      rw [hs _ j hj]
      by_cases e : j = i
      · subst e; simp
      · rw [if_neg e]; exact hm j (by omega))
    refine ⟨y, hy1, hy2, Ev.step (f := fun k => laws_markIntS.l0 k (x.set i (1 + (i : Int))) (1 + ((i + 1 : Nat) : Int)) ((i + 1 : Nat) : Int)) (fun k => ?_) hy3⟩
    simp only [laws_markIntS.l0]
    rw [if_pos (by omega), if_pos (by omega), wrap_in (x := 1 + (i : Int) + 1) (by omega) (by omega), wrap_in (x := (i : Int) + 1) (by omega) (by omega), show (1 + (i : Int) + 1) = 1 + ((i + 1 : Nat) : Int) by omega]
    rfl
theorem held_go (n : Nat) (hn : n ≤ 4000000) (y : List Int) (hy : y.length = n) (hm : ∀ j, j < n → y.getD j 0 = 1 + (j : Int)) : ∀ (d i : Nat), i ≤ n → n - i = d → Ev (fun k => laws_heldIntS.l0 k y (1 + (i : Int)) (i : Int)) (1 + (n : Int)) := by
  intro d
  induction d with
  | zero =>
    intro i h1 h2
    have hi : i = n := by omega
    subst hi
    exact Ev.step (f := fun _ => some (1 + (i : Int))) (fun k => by simp only [laws_heldIntS.l0]; rw [if_neg (by omega)]) (Ev.now _)
  | succ d ih =>
    intro i h1 h2
    refine Ev.step (f := fun k => laws_heldIntS.l0 k y (1 + ((i + 1 : Nat) : Int)) ((i + 1 : Nat) : Int)) (fun k => ?_) (ih (i + 1) (by omega) (by omega))
    simp only [laws_heldIntS.l0]
    have e : rd y (i : Int) = 1 + (i : Int) := by unfold rd; rw [Int.toNat_natCast]; exact hm i (by omega)
    rw [if_pos (by omega), if_pos (by omega), if_pos e, wrap_in (x := 1 + (i : Int) + 1) (by omega) (by omega), wrap_in (x := (i : Int) + 1) (by omega) (by omega), show (1 + (i : Int) + 1) = 1 + ((i + 1 : Nat) : Int) by omega]
    rfl
theorem marked (l : List Int) (hl : l.length ≤ 4000000) : ∃ (m : Int) (y : List Int), 0 ≤ m ∧ Ev (fun k => laws_markIntS.f k l 1) (m, y) ∧ Ev (fun k => laws_heldIntS.f k y 1) m := by
  obtain ⟨y, hy1, hy2, hy3⟩ := mark_go l.length hl l.length 0 l rfl (by omega) (by omega) (fun j hj => absurd hj (Nat.not_lt_zero _))
  exact ⟨1 + (l.length : Int), y, by omega, Ev.congr (fun k => rfl) hy3, Ev.congr (fun k => rfl) (held_go l.length hl y hy1 hy2 l.length 0 (by omega) (by omega))⟩
end Go.Proofs.YtnmibkkchgagbaaDoor.PInt
