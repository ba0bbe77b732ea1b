/- A list of structs of whole numbers that comes in as an argument reads as a list of them. Conditions: none. -/
import Derived.Test.YtoplnaobaedciaaAx0
import Derived.Deep.Slices
import Derived.Deep.Strs
import Derived.ChangeSame
namespace Go.Proofs.Ytoplnaobaedciaa.All
open Go.RowKit Go.Proofs.YtoplnaobaedciaaW.PrintWords Go.Proofs.YtoplnaobaedciaaW.PrintLast Go.ChangeShapes Go.Deep
set_option linter.unusedVariables false
set_option linter.unusedSimpArgs false
theorem cellsOf29 : Try.prog.cellsOf 29 = 2 := by kernel_rfl
theorem cellsOf3 : Try.prog.cellsOf 3 = 1 := by kernel_rfl
theorem listOf29 {α : Type} {R : Nat → α → Prop} : ∀ (n : Nat) (each : ∀ i, i < n → ∃ y, R i y), ∃ l : List α, l.length = n ∧ ∀ i y, l[i]? = some y → R i y
  | 0, _ => ⟨[], rfl, fun i y h => by simp at h⟩
  | n + 1, each => by
    obtain ⟨l, h1, h2⟩ := listOf29 n (fun i hi => each i (by omega))
    obtain ⟨y, hy⟩ := each n (by omega)
    refine ⟨l ++ [y], by simp [h1], fun i y' hy' => ?_⟩
    by_cases e : i < n
    · rw [List.getElem?_append_left (by omega)] at hy'
      exact h2 i y' hy'
    · by_cases e2 : i = n
      · subst e2
        rw [List.getElem?_append_right (by omega), h1, Nat.sub_self] at hy'
        obtain rfl : y = y' := by simpa using hy'
        exact hy
      · rw [List.getElem?_eq_none (by simp; omega)] at hy'
        cases hy'
theorem open_row29 {H : Type} {enc : TypeId × Value → H} {W : World} {fuel : Nat} {a : Option Addr} {len cap : Nat} {x : DataW H × List MemPlace}
    (h : DataW.trod enc Try.prog W 0 (fun _ => true) true fuel 36 [.slice a len cap] = some x) : ∃ l : List S29, l.length = len ∧ Kd.C k29 W a len l ∧ len ≤ cap := by
  rcases open_slice Try.underlying36 h with ⟨e, _⟩ | ⟨ad, len', cap', m, n, D, Pl, e, hb, hl, hm, hmm, _, hx⟩
  · simp only [List.cons.injEq, Value.slice.injEq, and_true] at e
    obtain ⟨rfl, rfl, rfl⟩ := e
    exact ⟨[], rfl, ⟨rfl, by omega, fun h0 => absurd h0 (by omega)⟩, by omega⟩
  · simp only [List.cons.injEq, Value.slice.injEq, and_true] at e
    obtain ⟨rfl, rfl, rfl⟩ := e
    simp only [if_true] at hmm
    subst hmm
    have each : ∀ i, i < len → ∃ y : S29, ∀ j u, [.int .i64 y.f0, .int .i64 y.f1][j]? = some u → W.cell? (ad.add (i * 2 + j)) = some u := by
      intro i hi
      obtain ⟨cs, h1, h2⟩ := hx i (by omega)
      rw [cellsOf29] at h1
      obtain ⟨_, hlen, hcell⟩ := World.cells?_some h1
      obtain ⟨q0, q1, n', _, _, g0, g1⟩ := trod_struct2 Try.underlying29 h2
      match cs, hlen with
      | [c0, c1], _ =>
        simp only [cellsOf3] at g0 g1
        obtain ⟨n0, e0, _, _⟩ := DataW.trod_int Try.underlying3 g0
        simp only [List.drop_zero, List.drop_succ_cons, List.take_succ_cons, List.take_zero, List.cons.injEq, and_true] at e0
        subst e0
        obtain ⟨n1, e1, _, _⟩ := DataW.trod_int Try.underlying3 g1
        simp only [List.drop_zero, List.drop_succ_cons, List.take_succ_cons, List.take_zero, List.cons.injEq, and_true] at e1
        subst e1
        refine ⟨⟨n0, n1⟩, fun j u hu => ?_⟩
        have hj : j < 2 := by
          have := (List.getElem?_eq_some_iff.1 hu).1
          simpa using this
        have := hcell j hj
        have hadd : (ad.add (i * 2)).add j = ad.add (i * 2 + j) := Go.Deep.add_add _ _ _
        rw [hadd] at this
        rw [this]
        exact hu
    obtain ⟨l, hl1, hl2⟩ := listOf29 len each
    refine ⟨l, hl1, ⟨hl1, by unfold maxLen at hm; omega, fun h0 => ⟨ad, rfl, fun i y hy => ?_⟩⟩, hl⟩
    have hi : i < len := by rw [← hl1]; exact (List.getElem?_eq_some_iff.1 hy).1
    exact ⟨[.int .i64 y.f0, .int .i64 y.f1], rfl, k29_mk W y, fun j u hu => hl2 i y hy j u hu⟩
end Go.Proofs.Ytoplnaobaedciaa.All
