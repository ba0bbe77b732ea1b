/- A list of lists of whole numbers that came in, read as what it is. Conditions: none. -/
import Derived.Test.YtnmibkkchgagbaaAx0
import Derived.Deep.Matrix
namespace Go.Proofs.Ytnmibkkchgagbaa.G
open Go.RowKit Go.ChangeShapes Go.WideShapes Go.Proofs.YtnmibkkchgagbaaW.PrintWords Go.Proofs.YtnmibkkchgagbaaW.PrintLast
set_option linter.unusedVariables false
/-- A slice of slices of ints, as the print reads it. -/
theorem open_ss {P : Program} {H : Type} {enc : TypeId × Value → H} {w : World} {base t e q fuel : Nat} {held : Bool} {x : DataW H × List MemPlace} {A : Option Addr} {len cap : Nat} (ht : P.underlying t = some (.slice e)) (he : P.underlying e = some (.slice q)) (hq : P.underlying q = some (.int .i64))
    (ce : P.cellsOf e = 1) (cq : P.cellsOf q = 1) (h : DataW.trod enc P w base (fun _ => true) held fuel t [.slice A len cap] = some x) :
    ∃ l : List (List Int), l.length = len ∧ Kd.C (Kd.slice 3 (Kd.int .i64)) w A len l ∧ len ≤ cap := by
  rcases Deep.open_int_rows ht he hq ce cq h with ⟨h0, _⟩ | ⟨a, len', cap', B, L, C, Z, h0, _, h1, h2, _, h3⟩
  · injection h0 with h0
    injection h0 with e1 e2 e3
    subst e1; subst e2; subst e3
    exact ⟨[], rfl, ⟨rfl, by omega, fun hp => absurd hp (Nat.lt_irrefl _)⟩, Nat.le_refl _⟩
  · injection h0 with h0
    injection h0 with e1 e2 e3
    subst e1; subst e2; subst e3
    have each : ∀ r, r < len → ∃ y : List Int, y.length = L r ∧ ReadsInt w .i64 (B r) y.length y ∧ y.length ≤ C r := by
      intro r hr
      obtain ⟨_, q1, q2, q3, q4, q5, q6⟩ := h3 r (by omega)
      have row : (B r = none ∧ L r = 0 ∧ C r = 0 ∧ Z r = []) ∨ ∃ x, B r = some x ∧ L r ≤ C r ∧ C r ≤ maxLen ∧ (Z r).length = C r ∧ (∀ i, i < (Z r).length → w.cell? (x.add i) = some (.int .i64 ((Z r).getD i 0))) ∧ ∀ n ∈ Z r, (Lit.int .i64 n).wf = true := by
        cases hb : B r with
        | none =>
          have hc := q5 hb
          exact .inl ⟨rfl, by omega, hc, List.eq_nil_of_length_eq_zero (by omega)⟩
        | some x => exact .inr ⟨x, rfl, q1, q2, q3, fun i hi => (q6 x hb).2 i (by omega), q4⟩
      obtain ⟨y, e, hr, _, _, hc⟩ := ReadsInt.ofRowC row
      exact ⟨y, e.symm, hr, hc⟩
    obtain ⟨y, hy⟩ := Deep.choose_lt each
    refine ⟨(List.range len).map y, by simp, ⟨by simp, by unfold maxLen at h2; omega, fun hp => ⟨a, rfl, fun j p hj => ?_⟩⟩, h1⟩
    rw [List.getElem?_map] at hj
    obtain ⟨j', hj', rfl⟩ := Option.map_eq_some_iff.1 hj
    have hjl : j < len := by
      have := (List.getElem?_eq_some_iff.1 hj').1
      simpa using this
    rw [List.getElem?_range hjl] at hj'
    injection hj' with hj'
    subst hj'
    obtain ⟨y1, y2, y3⟩ := hy j hjl
    refine ⟨[.slice (B j) (y j).length (C j)], rfl, ⟨B j, C j, rfl, y3, Kd.C_of_reads (d := (0 : Int)) (h1 := fun _ => rfl) y2⟩, fun i u hu => ?_⟩
    have hi : i = 0 := by
      have := (List.getElem?_eq_some_iff.1 hu).1
      simp at this
      omega
    subst hi
    simp only [List.getElem?_cons_zero, Option.some.injEq] at hu
    subst hu
    have := (h3 j (by omega)).1
    rw [y1]
    simpa [Kd.slice] using this
end Go.Proofs.Ytnmibkkchgagbaa.G
