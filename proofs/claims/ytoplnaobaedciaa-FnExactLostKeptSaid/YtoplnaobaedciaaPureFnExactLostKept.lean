/- LostKept of the program and of the reference answer alike, and its result is new memory. Conditions: none; this text speaks of the printed Lean functions alone. -/
import Derived.Test.YtoplnaobaedciaaPKept
import Derived.Test.YtoplnaobaedciaaAx8
import Derived.Test.YtoplnaobaedciaaPBar
import Derived.Test.YtoplnaobaedciaaPEv
namespace Go.Proofs.Ytoplnaobaedciaa.Pure
open Go.RowKit Go.Proofs.Ytoplnaobaedciaa.All Go.Proofs.YtoplnaobaedciaaW.PrintWords Go.Proofs.YtoplnaobaedciaaW.PrintLast Go.Proofs.Ytoplnaobaedciaa.PKept

/-- All lost bars: those of which both sides are one. -/
def lost (a b : Int) : List S31 × Bool := if ok2 a b then (seg (fun j => ⟨j, j⟩) 1 ((if a < b then a else b) + 1), true) else ([], false)
theorem zero_iff : ∀ i j : Fin 12, decide (Go.bits .xor .i64 (wrap64 (((i.val : Int) + 1) - 1)) (wrap64 (((j.val : Int) + 1) - 1)) = 0) = decide (i = j) := by decide +kernel
theorem heap_zero {x y : Int} (hx : 1 ≤ x ∧ x ≤ 12) (hy : 1 ≤ y ∧ y ≤ 12) : Go.bits .xor .i64 (wrap64 (x - 1)) (wrap64 (y - 1)) = 0 ↔ x = y := by
  have h2 := zero_iff ⟨(x - 1).toNat, by omega⟩ ⟨(y - 1).toNat, by omega⟩
  have e1 : (((x - 1).toNat : Nat) : Int) + 1 = x := by omega
  have e2 : (((y - 1).toNat : Nat) : Int) + 1 = y := by omega
  simp only [e1, e2] at h2
  rw [decide_eq_decide] at h2
  rw [h2, Fin.mk.injEq]
  omega
section
variable {a b : Int} (h : ok2 a b = true)
include h
theorem row_go (x : Int) (hx : 1 ≤ x ∧ x ≤ a) (r : List S31 × Bool) : ∀ (d : Nat) (y : Int) (acc : List S31), (b + 1 - y).toNat = d → 1 ≤ y → acc.length + d ≤ 1000 →
    Ev (fun k => spec_LostKept.l0 k a b (acc ++ (if y ≤ x ∧ x ≤ b then [⟨x, x⟩] else [])) (x + 1)) r → Ev (fun k => spec_LostKept.l1 k a b acc x y) r := by
  have hb := ok2_le h
  intro d
  induction d with
  | zero =>
    intro y acc hd hy hacc hr
    rw [if_neg (by omega), List.append_nil] at hr
    refine Ev.step (f := fun k => spec_LostKept.l0 k a b acc (x + 1)) (fun k => ?_) hr
    simp only [spec_LostKept.l1]
    rw [if_neg (by omega), wrap_id (by omega) (by omega)]
  | succ d ih =>
    intro y acc hd hy hacc hr
    by_cases e : x = y
    · subst e
      rw [if_pos (by omega)] at hr
      refine Ev.step (f := fun k => spec_LostKept.l1 k a b (acc ++ [⟨x, x⟩]) x (x + 1)) (fun k => ?_) (ih (x + 1) (acc ++ [⟨x, x⟩]) (by omega) (by omega) (by simp; omega) ?_)
      · simp only [spec_LostKept.l1, spec_laHeap.f, Option.bind_some]
        rw [if_pos (by omega), if_pos ((heap_zero (by omega) (by omega)).2 rfl), if_pos (by omega), wrap_id (by omega) (by omega)]
      · rw [if_neg (by omega), List.append_nil]
        exact hr
    · refine Ev.step (f := fun k => spec_LostKept.l1 k a b acc x (y + 1)) (fun k => ?_) (ih (y + 1) acc (by omega) (by omega) (by omega) ?_)
      · simp only [spec_LostKept.l1, spec_laHeap.f, Option.bind_some]
        rw [if_pos (by omega), if_neg (fun hz => e ((heap_zero (by omega) (by omega)).1 hz)), wrap_id (by omega) (by omega)]
      · by_cases c : y ≤ x ∧ x ≤ b
        · rw [if_pos c] at hr
          rw [if_pos (by omega)]
          exact hr
        · rw [if_neg c] at hr
          rw [if_neg (by omega)]
          exact hr
theorem spec_go : ∀ (d : Nat) (x : Int) (acc : List S31), (a + 1 - x).toNat = d → 1 ≤ x → acc.length + d ≤ 500 → Ev (fun k => spec_LostKept.l0 k a b acc x) (acc ++ seg (fun j => ⟨j, j⟩) x ((if a < b then a else b) + 1), true) := by
  have hb := ok2_le h
  intro d
  induction d with
  | zero =>
    intro x acc hd hx hacc
    rw [seg_nil _ (by split <;> omega), List.append_nil]
    exact Ev.step (f := fun _ => some (acc, true)) (fun k => by simp only [spec_LostKept.l0]; rw [if_neg (by omega)]) (Ev.now _)
  | succ d ih =>
    intro x acc hd hx hacc
    refine Ev.step (f := fun k => spec_LostKept.l1 k a b acc x 1) (fun k => by simp only [spec_LostKept.l0]; rw [if_pos (by omega)]) ?_
    refine row_go h x (by omega) _ _ 1 acc rfl (by omega) (by omega) ?_
    by_cases c : x ≤ b
    · rw [if_pos (by omega), seg_cons _ (by split <;> omega)]
      have := ih (x + 1) (acc ++ [⟨x, x⟩]) (by omega) (by omega) (by simp; omega)
      rw [List.append_assoc, List.singleton_append] at this
      exact this
    · rw [if_neg (by omega), List.append_nil, seg_nil _ (by split <;> omega)]
      have := ih (x + 1) acc (by omega) (by omega) (by omega)
      rw [seg_nil _ (by split <;> omega)] at this
      exact this
theorem impl_go : ∀ (d : Nat) (x : Int) (acc : List S31), ((if a < b then a else b) + 1 - x).toNat = d → 1 ≤ x → acc.length + d ≤ 500 → Ev (fun k => impl_LostKept.l0 k a b acc x) (acc ++ seg (fun j => ⟨j, j⟩) x ((if a < b then a else b) + 1), true) := by
  have hb := ok2_le h
  have hm : mn a b = if a < b then a else b := by unfold mn; split <;> split <;> omega
  intro d
  induction d with
  | zero =>
    intro x acc hd hx hacc
    rw [seg_nil _ (by omega), List.append_nil]
    exact Ev.step (f := fun _ => some (acc, true)) (fun k => by simp only [impl_LostKept.l0]; rw [hm, if_neg (by omega)]) (Ev.now _)
  | succ d ih =>
    intro x acc hd hx hacc
    rw [seg_cons _ (by omega)]
    have := ih (x + 1) (acc ++ [⟨x, x⟩]) (by omega) (by omega) (by simp; omega)
    rw [List.append_assoc, List.singleton_append] at this
    refine Ev.step (f := fun k => impl_LostKept.l0 k a b (acc ++ [⟨x, x⟩]) (x + 1)) (fun k => ?_) this
    have hx2 : x ≤ 12 := by split at hd <;> omega
    simp only [impl_LostKept.l0]
    rw [hm, if_pos (by omega), if_pos (by omega), wrap_id (by omega) (by omega)]
end
theorem spec_lost (a b : Int) : Ev (fun k => spec_LostKept.f k a b) (lost a b) := by
  unfold lost spec_LostKept.f
  simp only [good_eq, Option.bind_some]
  cases h : ok2 a b
  · exact Ev.now _
  · have hb := ok2_le h
    exact spec_go h _ 1 [] rfl (by omega) (by simp; omega)
theorem impl_lost (a b : Int) : Ev (fun k => impl_LostKept.f k a b) (lost a b) := by
  unfold lost impl_LostKept.f
  simp only [isBar_eq2, Option.bind_some]
  cases h : ok2 a b
  · exact Ev.now _
  · have hb := ok2_le h
    exact impl_go h _ 1 [] rfl (by omega) (by simp; split <;> omega)
theorem lost_length (a b : Int) : (lost a b).1.length ≤ 2000 := by
  unfold lost
  cases h : ok2 a b
  · simp
  · have hb := ok2_le h
    simp only [if_true, seg_length]
    split <;> omega
theorem FnExactLostKept : laws_FnExactLostKept.Pure := by
  intro a b _ _
  refine Ev.rounds (r := true) ?_
  have hs := spec_lost a b
  have hi := impl_lost a b
  have hl : (lost a b).1.length ≤ 4000000 := Nat.le_trans (lost_length a b) (by omega)
  have he := PBar.eqS (lost a b).1 hl
  obtain ⟨m, y, hm0, hm1, hm2⟩ := PBar.marked (lost a b).1 hl
  unfold laws_FnExactLostKept.f
  refine Ev.bind hs (Ev.bind hi (Ev.bind he ?_))
  refine PEv.pos rfl ?_
  refine Ev.step (f := fun k => (laws_markBarS.f k (lost a b).1 1).bind fun q => ((laws_heldBarS.f k q.2 1).bind fun t => (if t < 0 then (some false) else (if t = q.1 then ((impl_LostKept.f k a b).bind fun q4 => ((laws_eqBarS.f k q4.1 (lost a b).1).bind fun t2 => (if t2 = true then (laws_FnExactLostKept.j1 k q.2 q.1 (q4.2 != (lost a b).2)) else (laws_FnExactLostKept.j1 k q.2 q.1 true)))) else (some false))))) (fun k => by simp only [laws_FnExactLostKept.j0]; rw [if_neg (by simp)]; try rfl) ?_
  refine Ev.bind hm1 (Ev.bind hm2 ?_)
  refine PEv.neg (show ¬ m < 0 by omega) (PEv.pos rfl ?_)
  refine Ev.bind hi (Ev.bind he ?_)
  refine PEv.pos rfl ?_
  refine Ev.step (f := fun k => (laws_heldBarS.f k y 1).bind fun t => (if t < 0 then (some false) else (if t = m then (some true) else (some false)))) (fun k => by simp only [laws_FnExactLostKept.j1]; rw [if_neg (by simp)]) ?_
  refine Ev.bind hm2 ?_
  exact PEv.neg (show ¬ m < 0 by omega) (PEv.pos rfl (Ev.now _))

end Go.Proofs.Ytoplnaobaedciaa.Pure
