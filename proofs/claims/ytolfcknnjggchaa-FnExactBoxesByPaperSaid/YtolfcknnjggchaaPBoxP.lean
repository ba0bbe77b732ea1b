/- What the laws' helpers answer on lists of Box: a list equals itself; what has been marked is held. Conditions: lists of at most a million elements. -/
import Derived.Test.YtolfcknnjggchaaPPx3
namespace Go.Proofs.Ytolfcknnjggchaa.PBox
open Go.RowKit Go.Proofs.Ytolfcknnjggchaa.PP Go.Proofs.YtolfcknnjggchaaW.PrintWords Go.Proofs.YtolfcknnjggchaaW.PrintLast

theorem wrap_id {x : Int} (h0 : -9223372036854775808 ≤ x) (h1 : x ≤ 9223372036854775807) : wrap64 x = x := by unfold wrap64; omega
theorem Ev.out1 {α : Type} {g : Nat → Option α} {r : α} (h : Ev g r) : ∃ k, g k = some r := h.rounds

theorem eq_self (l : List S31) (hl : l.length ≤ 4000000) : ∀ (d i : Nat), i ≤ l.length → l.length - i = d → Ev (fun k => laws_eqBoxS.l0 k l l (i : Int)) true := by
  intro d
  induction d with
  | zero =>
    intro i h1 h2
    exact Ev.step (f := fun _ => some true) (fun k => by simp only [laws_eqBoxS.l0]; rw [if_neg (by omega)]) (Ev.now true)
  | succ d ih =>
    intro i h1 h2
    refine Ev.step (f := fun k => laws_eqBoxS.l0 k l l ((i + 1 : Nat) : Int)) (fun k => ?_) (ih (i + 1) (by omega) (by omega))
    simp only [laws_eqBoxS.l0]
    rw [if_pos (by omega), if_pos (by omega), if_pos (by omega), wrap_id (by omega) (by omega)]
    simp [laws_eqBox.f]
theorem eqS (l : List S31) (hl : l.length ≤ 4000000) : Ev (fun k => laws_eqBoxS.f k l l) true :=
  Ev.congr (fun k => by unfold laws_eqBoxS.f; rw [if_pos rfl]; rfl) (eq_self l hl l.length 0 (by omega) (by omega))

/-- The mark of element j. -/
def mk (j : Nat) : S31 := ⟨1 + 3 * (j : Int), 1 + 3 * (j : Int) + 1, 1 + 3 * (j : Int) + 1 + 1⟩
theorem mark_go (n : Nat) (hn : n ≤ 4000000) : ∀ (d i : Nat) (x : List S31), x.length = n → i ≤ n → n - i = d → (∀ j, j < i → x.getD j z31 = mk j) →
    ∃ y : List S31, y.length = n ∧ (∀ j, j < n → y.getD j z31 = mk j) ∧ Ev (fun k => laws_markBoxS.l0 k x (1 + 3 * (i : Int)) (i : Int)) (1 + 3 * (n : Int), y) := by
  intro d
  induction d with
  | zero =>
    intro i x hx h1 h2 hm
    have hi : i = n := by omega
    subst hi
    exact ⟨x, hx, hm, Ev.step (f := fun _ => some (1 + 3 * (i : Int), x)) (fun k => by simp only [laws_markBoxS.l0]; rw [if_neg (by omega)]) (Ev.now _)⟩
  | succ d ih =>
    intro i x hx h1 h2 hm
    have hs : ∀ (u : S31), ∀ j, j < i + 1 → (x.set i u).getD j z31 = if j = i then u else x.getD j z31 := by
      intro u j hj
      simp only [List.getD_eq_getElem?_getD]
      by_cases e : j = i
      · subst e; rw [if_pos rfl, List.getElem?_set_self (by omega)]; rfl
      · rw [if_neg e, List.getElem?_set_ne (by omega)]
    obtain ⟨y, hy1, hy2, hy3⟩ := ih (i + 1) (x.set i (mk i)) (by simpa using hx) (by omega) (by omega) (fun j hj => by
      rw [hs _ j hj]
      by_cases e : j = i
      · subst e; simp
      · rw [if_neg e]; exact hm j (by omega))
    refine ⟨y, hy1, hy2, Ev.step (f := fun k => laws_markBoxS.l0 k (x.set i (mk i)) (1 + 3 * ((i + 1 : Nat) : Int)) ((i + 1 : Nat) : Int)) (fun k => ?_) hy3⟩
    simp only [laws_markBoxS.l0]
    rw [if_pos (by omega), if_pos (by omega)]
    have q1 : wrap64 (1 + 3 * (i : Int) + 1) = 1 + 3 * (i : Int) + 1 := wrap_id (by omega) (by omega)
    have n1 : wrap64 (1 + 3 * (i : Int) + 1) = 1 + 3 * (i : Int) + 1 := by exact q1
    have q2 : wrap64 (1 + 3 * (i : Int) + 1 + 1) = 1 + 3 * (i : Int) + 1 + 1 := wrap_id (by omega) (by omega)
    have n2 : wrap64 (wrap64 (1 + 3 * (i : Int) + 1) + 1) = 1 + 3 * (i : Int) + 1 + 1 := by rw [n1]; exact q2
    have q3 : wrap64 (1 + 3 * (i : Int) + 1 + 1 + 1) = 1 + 3 * (i : Int) + 1 + 1 + 1 := wrap_id (by omega) (by omega)
    have n3 : wrap64 (wrap64 (wrap64 (1 + 3 * (i : Int) + 1) + 1) + 1) = 1 + 3 * (i : Int) + 1 + 1 + 1 := by rw [n2]; exact q3
    simp only [Option.bind_some, rd_T31, Int.toNat_natCast]
    congr 1
    · simp [mk, hx, show i < n by omega, q1, q2]
    all_goals first
      | (rw [n3]; omega)
      | (rw [wrap_id (by omega) (by omega)]; omega)
theorem held_go (n : Nat) (hn : n ≤ 4000000) (y : List S31) (hy : y.length = n) (hm : ∀ j, j < n → y.getD j z31 = mk j) : ∀ (d i : Nat), i ≤ n → n - i = d → Ev (fun k => laws_heldBoxS.l0 k y (1 + 3 * (i : Int)) (i : Int)) (1 + 3 * (n : Int)) := by
  intro d
  induction d with
  | zero =>
    intro i h1 h2
    have hi : i = n := by omega
    subst hi
    exact Ev.step (f := fun _ => some (1 + 3 * (i : Int))) (fun k => by simp only [laws_heldBoxS.l0]; rw [if_neg (by omega)]) (Ev.now _)
  | succ d ih =>
    intro i h1 h2
    refine Ev.step (f := fun k => laws_heldBoxS.l0 k y (1 + 3 * ((i + 1 : Nat) : Int)) ((i + 1 : Nat) : Int)) (fun k => ?_) (ih (i + 1) (by omega) (by omega))
    have e : rd_T31 y (i : Int) = mk i := by
      unfold rd_T31
      rw [Int.toNat_natCast]
      exact hm i (by omega)
    simp only [laws_heldBoxS.l0]
    rw [if_pos (by omega), if_pos (by omega), e]
    have q1 : wrap64 (1 + 3 * (i : Int) + 1) = 1 + 3 * (i : Int) + 1 := wrap_id (by omega) (by omega)
    have n1 : wrap64 (1 + 3 * (i : Int) + 1) = 1 + 3 * (i : Int) + 1 := by exact q1
    have q2 : wrap64 (1 + 3 * (i : Int) + 1 + 1) = 1 + 3 * (i : Int) + 1 + 1 := wrap_id (by omega) (by omega)
    have n2 : wrap64 (wrap64 (1 + 3 * (i : Int) + 1) + 1) = 1 + 3 * (i : Int) + 1 + 1 := by rw [n1]; exact q2
    have q3 : wrap64 (1 + 3 * (i : Int) + 1 + 1 + 1) = 1 + 3 * (i : Int) + 1 + 1 + 1 := wrap_id (by omega) (by omega)
    have n3 : wrap64 (wrap64 (wrap64 (1 + 3 * (i : Int) + 1) + 1) + 1) = 1 + 3 * (i : Int) + 1 + 1 + 1 := by rw [n2]; exact q3
    rw [if_pos (show (mk i).f0 = 1 + 3 * (i : Int) from rfl)]
    rw [if_pos (show (mk i).f1 = wrap64 (1 + 3 * (i : Int) + 1) from n1.symm)]
    rw [if_pos (show (mk i).f2 = wrap64 (wrap64 (1 + 3 * (i : Int) + 1) + 1) from n2.symm)]
    congr 1
    all_goals first
      | (rw [n3]; omega)
      | (rw [wrap_id (by omega) (by omega)]; omega)
/-- What has been marked is held. -/
theorem marked (l : List S31) (hl : l.length ≤ 4000000) : ∃ (m : Int) (y : List S31), 0 ≤ m ∧ Ev (fun k => laws_markBoxS.f k l 1) (m, y) ∧ Ev (fun k => laws_heldBoxS.f k y 1) m := by
  obtain ⟨y, h1, h2, h3⟩ := mark_go l.length hl l.length 0 l rfl (by omega) (by omega) (fun j hj => absurd hj (Nat.not_lt_zero _))
  exact ⟨_, y, by omega, Ev.congr (fun k => rfl) h3, Ev.congr (fun k => rfl) (held_go l.length hl y h1 h2 l.length 0 (by omega) (by omega))⟩
end Go.Proofs.Ytolfcknnjggchaa.PBox
