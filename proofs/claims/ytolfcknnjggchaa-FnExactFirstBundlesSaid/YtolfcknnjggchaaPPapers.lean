/- Plain facts on the papers of bundles, of the printed functions. Conditions: as each law states them. -/
import Derived.Test.YtolfcknnjggchaaPBx4
import Derived.Test.YtolfcknnjggchaaPBestB
namespace Go.Proofs.Ytolfcknnjggchaa.PPapers
open Go.RowKit Go.Proofs.Ytolfcknnjggchaa.PB Go.Proofs.YtolfcknnjggchaaW.PrintWords Go.Proofs.YtolfcknnjggchaaW.PrintLast Go.Proofs.Ytolfcknnjggchaa.PEv Go.Proofs.Ytolfcknnjggchaa.PBx Go.Proofs.Ytolfcknnjggchaa.PBoxesB Go.Proofs.Ytolfcknnjggchaa.PBestB
set_option linter.unusedSimpArgs false
set_option maxRecDepth 100000
set_option linter.unusedVariables false

/-- The paper of the best box of n bars. -/
def ppr (n : Int) : Int := (wb (bxs n)).2.2.2
theorem bxs_ne (n : Int) (h : 1 ≤ n ∧ n ≤ 60) : bxs n ≠ [] := by
  intro e
  have hm : ∀ (d : Nat) (l : Int), l ≤ n → n < l + d → lngs S31.mk vol n d l ≠ [] := by
    intro d
    induction d with
    | zero => intro l h1 h2; omega
    | succ d ih =>
      intro l h1 h2
      rw [lngs, if_pos (by omega)]
      by_cases hl : l = n
      · intro e2
        have e3 := (List.append_eq_nil_iff.1 e2).1
        rw [brds, if_pos (by omega)] at e3
        have e4 := (List.append_eq_nil_iff.1 e3).1
        rw [tals, if_pos (by omega), if_pos (by unfold vol; rw [hl, Int.mul_one, Int.mul_one])] at e4
        cases e4
      · intro e2
        exact ih (l + 1) (by omega) (by omega) (List.append_eq_nil_iff.1 e2).2
  exact hm 60 1 (by omega) (by omega) e
theorem ppr_in (n : Int) (h : 1 ≤ n ∧ n ≤ 60) : 0 < ppr n ∧ ppr n ≤ 100000 := (wb_pos (bxs n) (bxs_ok n)).2.2 (bxs_ne n h)
theorem impl_papers_go : ∀ (d : Nat) (n : Int) (acc : List Int), 1 ≤ n → n + d = 61 → acc.length ≤ 100 - d → Ev (fun k => impl_papers.l0 k acc n) (acc ++ (List.range d).map (fun (j : Nat) => ppr (n + j))) := by
  intro d
  induction d with
  | zero =>
    intro n acc h1 h2 h3
    simp only [List.range_zero, List.map_nil, List.append_nil]
    refine Ev.step (f := fun _ => some acc) (fun k => ?_) (Ev.now _)
    simp only [impl_papers.l0]
    rw [if_neg (by omega)]
  | succ d ih =>
    intro n acc h1 h2 h3
    have := ih (n + 1) (acc ++ [ppr n]) (by omega) (by omega) (by simp; omega)
    have e : acc ++ [ppr n] ++ (List.range d).map (fun (j : Nat) => ppr (n + 1 + j)) = acc ++ (List.range (d + 1)).map (fun (j : Nat) => ppr (n + j)) := by
      rw [List.range_succ_eq_map, List.map_cons, List.map_map, List.append_assoc, List.singleton_append]
      congr 2
      · simp
      · apply List.map_congr_left
        intro j _
        simp only [Function.comp]
        congr 1
        omega
    rw [e] at this
    have hb := best_ev (bxs n) (Nat.le_trans (bxs_length n) (by omega)) (bxs_ok n)
    refine Ev.step (f := fun k => (impl_holding.f k n).bind fun t174 => (impl_best.f k t174).bind fun bt177 => (impl_Box_paper.f bt177.1 bt177.2.1 bt177.2.2.1).bind fun t182 => if acc.length < 17592186044416 then impl_papers.l0 k (acc ++ [t182]) (wrap64 (n + 1)) else none) (fun k => ?_) (Ev.bind (Ev.bind (boxes_ev n) (Ev.now _) : Ev (fun k => impl_holding.f k n) (bxs n)) (Ev.bind hb ?_))
    · simp only [impl_papers.l0]
      rw [if_pos (by omega)]
    · rw [ib_paper _ (bxs_ok n)]
      simp only [Option.bind_some]
      refine pos (by omega) ?_
      rw [wrap_in (x := n + 1) (by omega) (by omega)]
      exact this
theorem spec_sealed_go (s : Int) (hs : 0 ≤ s ∧ s ≤ 60) : ∀ (d : Nat) (n : Int) (acc : List Int), 1 ≤ n → n + d = 61 → acc.length ≤ 100 - d → Ev (fun k => spec_wrSealed.l0 k s acc n) (acc ++ (List.range d).map (fun (j : Nat) => ppr (n + j) + s)) := by
  intro d
  induction d with
  | zero =>
    intro n acc h1 h2 h3
    simp only [List.range_zero, List.map_nil, List.append_nil]
    refine Ev.step (f := fun _ => some acc) (fun k => ?_) (Ev.now _)
    simp only [spec_wrSealed.l0]
    rw [if_neg (by omega)]
  | succ d ih =>
    intro n acc h1 h2 h3
    have := ih (n + 1) (acc ++ [ppr n + s]) (by omega) (by omega) (by simp; omega)
    have e : acc ++ [ppr n + s] ++ (List.range d).map (fun (j : Nat) => ppr (n + 1 + j) + s) = acc ++ (List.range (d + 1)).map (fun (j : Nat) => ppr (n + j) + s) := by
      rw [List.range_succ_eq_map, List.map_cons, List.map_map, List.append_assoc, List.singleton_append]
      congr 2
      · simp
      · apply List.map_congr_left
        intro j _
        simp only [Function.comp]
        congr 2
        omega
    rw [e] at this
    have hp := ppr_in n (by omega)
    refine Ev.step (f := fun k => (spec_wrBoxes.f k n).bind fun t115 => (spec_wrBest.f k t115).bind fun bt118 => if bt118.2.2.2 > 0 then (if acc.length < 17592186044416 then spec_wrSealed.l0 k s (acc ++ [wrap64 (bt118.2.2.2 + s)]) (wrap64 (n + 1)) else none) else (if acc.length < 17592186044416 then spec_wrSealed.l0 k s (acc ++ [bt118.2.2.2]) (wrap64 (n + 1)) else none)) (fun k => ?_) (Ev.bind (wrBoxes_ev n (by omega)) (Ev.bind (wrBest_ev (bxs n) (Nat.le_trans (bxs_length n) (by omega)) (bxs_ok n)) (pos hp.1 (pos (by omega) ?_))))
    · simp only [spec_wrSealed.l0]
      rw [if_pos (by omega)]
    · rw [wrap_in (x := (wb (bxs n)).2.2.2 + s) (by unfold ppr at hp; omega) (by unfold ppr at hp; omega), wrap_in (x := n + 1) (by omega) (by omega)]
      exact this
def paps : List Int := [0] ++ (List.range 60).map (fun (j : Nat) => ppr (1 + j))
def seals (s : Int) : List Int := [0] ++ (List.range 60).map (fun (j : Nat) => ppr (1 + j) + s)
theorem papers_ev : Ev (fun k => impl_papers.f k) paps := Ev.congr (fun k => rfl) (impl_papers_go 60 1 [0] (by omega) (by omega) (by simp))
theorem sealed_ev (s : Int) (hs : 0 ≤ s ∧ s ≤ 60) : Ev (fun k => spec_wrSealed.f k s) (seals s) := Ev.congr (fun k => rfl) (spec_sealed_go s hs 60 1 [0] (by omega) (by omega) (by simp))
theorem paps_at (n : Int) (h : 1 ≤ n ∧ n ≤ 60) : rd paps n = ppr n := by
  obtain ⟨m, rfl⟩ : ∃ m : Nat, n = (m : Int) + 1 := ⟨(n - 1).toNat, by omega⟩
  unfold rd paps
  rw [List.getD_eq_getElem?_getD, show ((m : Int) + 1).toNat = m + 1 by omega]
  simp [show m < 60 by omega, Int.add_comm]
theorem seals_at (s n : Int) (h : 1 ≤ n ∧ n ≤ 60) : rd (seals s) n = ppr n + s := by
  obtain ⟨m, rfl⟩ : ∃ m : Nat, n = (m : Int) + 1 := ⟨(n - 1).toNat, by omega⟩
  unfold rd seals
  rw [List.getD_eq_getElem?_getD, show ((m : Int) + 1).toNat = m + 1 by omega]
  simp [show m < 60 by omega, Int.add_comm]
theorem paps_length : paps.length = 61 := by simp [paps]
theorem seals_length (s : Int) : (seals s).length = 61 := by simp [seals]

end Go.Proofs.Ytolfcknnjggchaa.PPapers
