/- The plain laws of GoodChomps and LostChomps: the program's functions list what the reference's do, and the laws answer true. Conditions: the laws' own. -/
import Derived.Test.YtnmibkkchgagbaaDoorGLawGL
import Derived.Test.YtnmibkkchgagbaaDoorPRows
namespace Go.Proofs.YtnmibkkchgagbaaDoor.Pure
open Go.RowKit Go.Proofs.YtnmibkkchgagbaaDoor.All Go.Proofs.YtnmibkkchgagbaaDoorW.PrintWords Go.Proofs.YtnmibkkchgagbaaDoorW.PrintLast Go.Proofs.YtnmibkkchgagbaaDoor.PEv Go.Proofs.YtnmibkkchgagbaaDoor.PChomp Go.Proofs.YtnmibkkchgagbaaDoor.PHeap2 Go.Proofs.YtnmibkkchgagbaaDoor.PFate Go.Proofs.YtnmibkkchgagbaaDoor.PAll
set_option linter.unusedVariables false

theorem gres_ok (l : List Int) : (gres l).1.length ≤ 36 ∧ ∀ x ∈ (gres l).1, x.length ≤ 6 := by
  unfold gres
  split
  · next h =>
    have hok := (isC_ok h).1
    refine ⟨Nat.le_trans (List.length_filter_le _ _) (mv_len hok), fun x hx => ?_⟩
    obtain ⟨a, y, e, _⟩ := mv_mem (List.mem_filter.1 hx).1
    rw [e]
    simp
  · exact ⟨by simp, by simp⟩
theorem lres_ok (a b : Int) : (lres a b).1.length ≤ 117649 ∧ ∀ x ∈ (lres a b).1, x.length ≤ 6 := by
  unfold lres
  split
  · next h =>
    have h1 := of_decide_eq_true h.1
    have hw6 : a.toNat ≤ 6 := by omega
    refine ⟨Nat.le_trans (List.length_filter_le _ _) (all_len hw6 (Nat.le_refl 6)), fun x hx => ?_⟩
    exact (all_ok6 hw6 (Nat.le_refl 6) (List.mem_filter.1 hx).1).1
  · exact ⟨by simp, by simp⟩
/-- Rounds enough for all that the law's helpers answer. -/
theorem goodAns (l : List Int) (hl : ¬ (l.length : Int) > 1048576) : ∃ k m1 y1 m2 R2, GoodAns k l (gres l).1 (gres l).2 m1 y1 m2 R2 := by
  obtain ⟨hr1, hr2⟩ := gres_ok l
  have hr3 : ∀ x ∈ (gres l).1, x.length ≤ 4000000 := fun x hx => by have := hr2 x hx; omega
  have hr4 := PRows.tot_le (gres l).1 6 hr2
  have e1 := PCopy.copy_ev l (by omega)
  have e4 := PRows.eqSS (gres l).1 hr3 (by omega)
  have e5 := PInt.eqS l (by omega)
  obtain ⟨m, y, h0, e6, _⟩ := PInt.marked l (by omega)
  have e7 := PRows.markSS (gres l).1 (by omega) hr3 (by omega)
  have e8 := PRows.heldSS (gres l).1 (by omega) hr3 (by omega)
  obtain ⟨K1, e1⟩ := e1
  obtain ⟨K4, e4⟩ := e4
  obtain ⟨K5, e5⟩ := e5
  obtain ⟨K6, e6⟩ := e6
  obtain ⟨K7, e7⟩ := e7
  obtain ⟨K8, e8⟩ := e8
  exact ⟨K1 + K4 + K5 + K6 + K7 + K8, m, y, _, _, ⟨e1 _ (by omega), by unfold spec_GoodChomps.f; rw [if_pos (by omega)], by unfold impl_GoodChomps.f; rw [if_pos (by omega)], e4 _ (by omega), e5 _ (by omega), e6 _ (by omega), e7 _ (by omega), e8 _ (by omega), h0, by omega⟩⟩
theorem walk_FnExactGoodChomps (a0 : Option Addr) (len0 cap0 : Nat) (z0 : List Int) (w : World) (w0 : (a0 = none ∧ len0 = 0 ∧ cap0 = 0 ∧ z0 = []) ∨ ∃ x, a0 = some x ∧ len0 ≤ cap0 ∧ cap0 ≤ maxLen ∧ z0.length = cap0 ∧ (∀ i, i < z0.length → w.cell? (x.add i) = some (.int .i64 (z0.getD i 0))) ∧ ∀ n ∈ z0, (Lit.int .i64 n).wf = true) (y0 : len0 * 8 ≤ 140737488351232) :
    Calls Tryd.prog 10 #[.slice a0 len0 cap0] w fun e w' => e = .returned (.bool true) ∧ Below w.heap.size w w' := by
  obtain ⟨l0, rfl, hr0, hm0, hw0, hc0⟩ := ReadsInt.ofRowC w0
  by_cases hl : (l0.length : Int) > 1048576
  · exact laws_FnExactGoodChomps.long _ _ l0 w hl
  · obtain ⟨k, m1, y1, m2, R2, h⟩ := goodAns l0 hl
    exact laws_FnExactGoodChomps.calls k _ _ l0 _ _ m1 y1 m2 R2 w (Kd.C_of_reads (d := (0 : Int)) (h1 := fun _ => rfl) hr0) hc0 hl h
theorem lostAns (a b : Int) : ∃ k m2 R2, LostAns k a b (lres a b).1 (lres a b).2 m2 R2 := by
  obtain ⟨hr1, hr2⟩ := lres_ok a b
  have hr3 : ∀ x ∈ (lres a b).1, x.length ≤ 4000000 := fun x hx => by have := hr2 x hx; omega
  have hr4 := PRows.tot_le (lres a b).1 6 hr2
  have e4 := PRows.eqSS (lres a b).1 hr3 (by omega)
  have e7 := PRows.markSS (lres a b).1 (by omega) hr3 (by omega)
  have e8 := PRows.heldSS (lres a b).1 (by omega) hr3 (by omega)
  obtain ⟨K4, e4⟩ := e4
  obtain ⟨K7, e7⟩ := e7
  obtain ⟨K8, e8⟩ := e8
  exact ⟨K4 + K7 + K8, _, _, ⟨rfl, rfl, e4 _ (by omega), e7 _ (by omega), e8 _ (by omega), by omega⟩⟩
theorem walk_FnExactLostChomps (a0 a1 : Int) (w : World) : Calls Tryd.prog 9 #[.int .i64 a0, .int .i64 a1] w fun e w' => e = .returned (.bool true) ∧ Below w.heap.size w w' := by
  obtain ⟨k, m2, R2, h⟩ := lostAns a0 a1
  exact laws_FnExactLostChomps.calls k a0 a1 _ _ m2 R2 w h
end Go.Proofs.YtnmibkkchgagbaaDoor.Pure
