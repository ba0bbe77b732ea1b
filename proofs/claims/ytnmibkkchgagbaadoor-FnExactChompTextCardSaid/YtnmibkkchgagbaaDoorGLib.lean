/- Small laws on a row of the call's own: what is written behind its first m elements leaves these as they are; the builtin clear on elements of several cells; a row filtered in place, on lists. Conditions: as each law states them. -/
import Derived.Test.YtnmibkkchgagbaaDoorWMore
import Derived.Lib.SliceRun
namespace Go.Proofs.YtnmibkkchgagbaaDoor.G
open Go.RowKit Go.Proofs.YtnmibkkchgagbaaDoorW.PrintWords Go.Proofs.YtnmibkkchgagbaaDoorW.PrintLast Go.Proofs.YtnmibkkchgagbaaDoorW.PrintMore
set_option linter.unusedVariables false

/-- A store behind the first m elements. -/
theorem R_set_behind {α : Type} {d : Kd α} {e base g m cap : Nat} {ok : Nat → Prop} {W : World} {xs : List α} (h : d.R e W base ok (.slice (some ⟨g, 0, none⟩) m cap) xs) (o : Nat) (u : Value) (ho : m * d.sz ≤ o) :
    d.R e (W.setCell ⟨g, o, none⟩ u) base ok (.slice (some ⟨g, 0, none⟩) m cap) xs := by
  obtain ⟨h0, inner, ⟨hl, hown⟩, hr⟩ := h
  rcases hown with ⟨e1, _⟩ | ⟨g', cap', cur, e1, hb, hh, hnc, hcm, hsz, htk⟩
  · cases e1
  · injection e1 with ea en ec
    injection ea with ea
    injection ea with ea _ _
    subst ea; subst ec
    have hm : m = xs.length := en
    subst hm
    refine ⟨h0, inner, ⟨hl, .inr ⟨g, cap, cur.setIfInBounds o u, rfl, hb, blk_set hh o u, hnc, hcm, by simpa using hsz, ?_⟩⟩, hr.imp_ (fun _ _ hp => d.M_far (p := ⟨g, o, none⟩) hp (fun k hk => by have := hk.2; simp [Value.ownBlock] at this; exact this) u)⟩
    rw [Array.toList_setIfInBounds, List.take_set, List.set_eq_of_length_le, htk]
    rw [List.length_take]
    omega
theorem R_setCells_behind {α : Type} {d : Kd α} {e base g m cap : Nat} {ok : Nat → Prop} {xs : List α} : ∀ (vs : List Value) (o : Nat) {W : World}, d.R e W base ok (.slice (some ⟨g, 0, none⟩) m cap) xs → m * d.sz ≤ o →
    d.R e (W.setCells g o vs) base ok (.slice (some ⟨g, 0, none⟩) m cap) xs
  | [], _, _, h, _ => h
  | v :: r, o, W, h, ho => R_setCells_behind r (o + 1) (R_set_behind h o v ho) (by omega)
theorem below_setCells {B : Nat} {a : World} (b : Nat) (hb : B ≤ b) : ∀ (vs : List Value) (o : Nat) {w : World}, Below B a w → Below B a (w.setCells b o vs)
  | [], _, _, h => h
  | v :: r, o, w, h => below_setCells b hb r (o + 1) (h.setCell (p := ⟨b, o, none⟩) hb v)
/-- The cells of a row, all of them: there, and not frozen. -/
theorem R_cells {α : Type} {d : Kd α} {e base g n cap : Nat} {ok : Nat → Prop} {W : World} {xs : List α} (h : d.R e W base ok (.slice (some ⟨g, 0, none⟩) n cap) xs) (j : Nat) (hj : j < n * d.sz) :
    (W.cell? ⟨g, j, none⟩).isSome = true ∧ W.frozen? ⟨g, j, none⟩ = false := by
  obtain ⟨h0, inner, ⟨hl, hown⟩, hr⟩ := h
  rcases hown with ⟨e1, _⟩ | ⟨g', cap', cur, e1, hb, hh, hnc, hcm, hsz, htk⟩
  · cases e1
  · injection e1 with ea en ec
    injection ea with ea
    injection ea with ea _ _
    subst ea; subst ec
    have hlt : j < cur.size := by
      rw [hsz]
      have : n * d.sz ≤ cap * d.sz := Nat.mul_le_mul_right _ (by omega)
      omega
    exact ⟨by rw [blk_cell hh j]; simp [hlt], blk_frozen hh j⟩

/-- 'clear(s)', s a slice of n > 0 elements: all its cells hold the zero value's. -/
theorem run_clear {P : Program} (w : World) (t e ty : TypeId) (z : Value) (ht : P.underlying t = some (.slice e)) (hv : ∀ w, (zeroValue e).run P w = .ok z w) (h1 : ∀ v ∈ z.cells.toList, v.oneCell' = true) (b o n c : Nat) (hn : 0 < n)
    (hc : ∀ j, j < z.cells.size * n → (w.cell? ⟨b, o + j, none⟩).isSome = true ∧ w.frozen? ⟨b, o + j, none⟩ = false) :
    (Builtin.clear_ #[t] ty #[.slice (some ⟨b, o, none⟩) n c]).run P w = .ok (.tuple #[]) (w.setCells b o (Builtin.zeroCells z.cells n).toList) := by
  have hlen : (Builtin.zeroCells z.cells n).toList.length = z.cells.size * n := by simp [Builtin.zeroCells, Nat.mul_comm]
  have hst := run_storeCells_cells (P := P) b o (Builtin.zeroCells z.cells n).toList 0 w (fun j hj => (hc j (by rw [hlen] at hj; exact hj)).1) (fun j hj => (hc j (by rw [hlen] at hj; exact hj)).2) (fun v hv' => by
    simp only [Builtin.zeroCells, Array.toList_map, List.mem_map] at hv'
    obtain ⟨i, hi, rfl⟩ := hv'
    have hi2 : i < n * z.cells.size := by simpa using hi
    have hpos : 0 < z.cells.size := by
      rcases Nat.eq_zero_or_pos z.cells.size with h0 | h0
      · rw [h0] at hi2; simp at hi2
      · exact h0
    have hlt : i % z.cells.size < z.cells.size := Nat.mod_lt _ hpos
    rw [getElem!_pos z.cells _ hlt]
    exact h1 _ (by simp))
  simp only [Nat.add_zero] at hst
  obtain ⟨m, rfl⟩ : ∃ m, n = m + 1 := ⟨n - 1, by omega⟩
  simp [Builtin.clear_, run_underlying ht, hv, hst]

/-! ### a list filtered in place -/
section
variable {α : Type}
/-- After j elements have been seen and i of them kept, the row holds L. -/
structure Sieve (p : α → Bool) (l0 : List α) (i j : Nat) (L : List α) : Prop where
  len : L.length = l0.length
  lt : i < j
  le : j ≤ l0.length
  low : L.take i = (l0.take j).filter (fun x => !p x)
  high : L.drop j = l0.drop j
theorem Sieve.skip {p : α → Bool} {l0 L : List α} {i j : Nat} (h : Sieve p l0 i j L) (z : α) (hj : j < l0.length) (hp : p (l0.getD j z) = true) : Sieve p l0 i (j + 1) L := by
  refine ⟨h.len, by have := h.lt; omega, hj, ?_, ?_⟩
  · rw [List.take_succ_eq_append_getElem hj, List.filter_append, ← h.low]
    have : p l0[j] = true := by simpa [List.getD_eq_getElem?_getD, hj] using hp
    simp [this]
  · rw [← List.drop_drop, ← List.drop_drop, h.high]
theorem Sieve.keep {p : α → Bool} {l0 L : List α} {i j : Nat} (h : Sieve p l0 i j L) (z : α) (hj : j < l0.length) (hp : p (l0.getD j z) = false) : Sieve p l0 (i + 1) (j + 1) (L.set i (l0.getD j z)) := by
  have hi : i < L.length := by have := h.lt; have := h.len; omega
  refine ⟨by rw [List.length_set]; exact h.len, by have := h.lt; omega, hj, ?_, ?_⟩
  · rw [List.take_succ_eq_append_getElem (by rw [List.length_set]; exact hi), List.take_set, List.set_eq_of_length_le (by rw [List.length_take]; omega), h.low, List.take_succ_eq_append_getElem hj, List.filter_append]
    have e : l0.getD j z = l0[j] := by simp [List.getD_eq_getElem?_getD, hj]
    rw [e] at hp
    rw [e]
    simp [hp, List.getElem_set_self]
  · rw [List.drop_set, if_pos (by have := h.lt; omega), ← List.drop_drop, ← List.drop_drop, h.high]
theorem Sieve.at {p : α → Bool} {l0 L : List α} {i j : Nat} (h : Sieve p l0 i j L) (z : α) (hj : j < l0.length) : L.getD j z = l0.getD j z := by
  have h1 : (L.drop j)[0]? = (l0.drop j)[0]? := by rw [h.high]
  simp only [List.getElem?_drop, Nat.add_zero] at h1
  rw [List.getD_eq_getElem?_getD, List.getD_eq_getElem?_getD, h1]
theorem Sieve.done {p : α → Bool} {l0 L : List α} {i : Nat} (h : Sieve p l0 i l0.length L) : L.take i = l0.filter (fun x => !p x) := by
  rw [h.low, List.take_length]
theorem Sieve.start {p : α → Bool} {l0 : List α} {i : Nat} (z : α) (hi : i < l0.length) (ht : p (l0.getD i z) = true) (hn : ∀ j, j < i → p (l0.getD j z) = false) : Sieve p l0 i (i + 1) l0 := by
  refine ⟨rfl, by omega, hi, ?_, rfl⟩
  have e : p l0[i] = true := by simpa [List.getD_eq_getElem?_getD, hi] using ht
  rw [List.take_succ_eq_append_getElem hi, List.filter_append]
  have e2 : (l0.take i).filter (fun x => !p x) = l0.take i := by
    rw [List.filter_eq_self]
    intro x hx
    obtain ⟨j, hj, rfl⟩ := List.mem_iff_getElem.1 hx
    rw [List.length_take] at hj
    have := hn j (by omega)
    rw [List.getElem_take]
    have h3 : l0.getD j z = l0[j]'(by omega) := by simp [List.getD_eq_getElem?_getD, show j < l0.length by omega]
    rw [h3] at this
    simp [this]
  simp [e, e2]
theorem filter_none {p : α → Bool} {l0 : List α} (z : α) (hn : ∀ j, j < l0.length → p (l0.getD j z) = false) : l0.filter (fun x => !p x) = l0 := by
  rw [List.filter_eq_self]
  intro x hx
  obtain ⟨j, hj, rfl⟩ := List.mem_iff_getElem.1 hx
  have := hn j hj
  have h3 : l0.getD j z = l0[j] := by simp [List.getD_eq_getElem?_getD, hj]
  rw [h3] at this
  simp [this]
/-- Where the first element lies of which p holds, or -1. -/
def idxOf (p : α → Bool) : List α → Nat → Int
  | [], _ => -1
  | x :: r, i => if p x then (i : Int) else idxOf p r (i + 1)
theorem idxOf_hit (p : α → Bool) (z : α) : ∀ (l : List α) (i k : Nat), k < l.length → p (l.getD k z) = true → (∀ j, j < k → p (l.getD j z) = false) → idxOf p l i = ((i + k : Nat) : Int)
  | [], _, _, h, _, _ => by simp at h
  | x :: r, i, 0, _, h, _ => by
    have : p x = true := by simpa using h
    simp [idxOf, this]
  | x :: r, i, k + 1, hk, h, hn => by
    have h0 : p x = false := by simpa using hn 0 (by omega)
    rw [idxOf, h0, if_neg (by simp), idxOf_hit p z r (i + 1) k (by simpa using hk) (by simpa using h) (fun j hj => by simpa using hn (j + 1) (by omega))]
    congr 1; omega
theorem idxOf_miss (p : α → Bool) (z : α) : ∀ (l : List α) (i : Nat), (∀ j, j < l.length → p (l.getD j z) = false) → idxOf p l i = -1
  | [], _, _ => rfl
  | x :: r, i, hn => by
    have h0 : p x = false := by simpa using hn 0 (by simp)
    rw [idxOf, h0, if_neg (by simp)]
    exact idxOf_miss p z r (i + 1) (fun j hj => by simpa using hn (j + 1) (by simpa using hj))
theorem idxOf_nonneg (p : α → Bool) : ∀ (l : List α) (i : Nat), decide (0 ≤ idxOf p l i) = l.any p
  | [], _ => by simp [idxOf]
  | x :: r, i => by
    rw [idxOf]
    cases h : p x
    · simp only [List.any_cons, h, Bool.false_or]
      rw [if_neg (by simp)]
      exact idxOf_nonneg p r (i + 1)
    · simp [h]
/-- What 'idxOf' tells. -/
theorem idxOf_spec (p : α → Bool) (z : α) : ∀ (l : List α) (i : Nat), (idxOf p l i = -1 ∧ ∀ j, j < l.length → p (l.getD j z) = false) ∨ ∃ k, k < l.length ∧ idxOf p l i = ((i + k : Nat) : Int) ∧ p (l.getD k z) = true ∧ ∀ j, j < k → p (l.getD j z) = false
  | [], i => .inl ⟨rfl, fun j hj => absurd hj (Nat.not_lt_zero _)⟩
  | y :: r, i => by
    cases h : p y with
    | true => exact .inr ⟨0, by simp, by simp [idxOf, h], by simpa using h, fun j hj => absurd hj (Nat.not_lt_zero _)⟩
    | false =>
      rcases idxOf_spec p z r (i + 1) with ⟨e, ha⟩ | ⟨k, hk, e, ht, ha⟩
      · refine .inl ⟨by simp [idxOf, h, e], fun j hj => ?_⟩
        cases j with
        | zero => simpa using h
        | succ j => simpa using ha j (by simpa using hj)
      · refine .inr ⟨k + 1, by simpa using hk, by rw [idxOf, h, if_neg (by simp), e]; congr 1; omega, by simpa using ht, fun j hj => ?_⟩
        cases j with
        | zero => simpa using h
        | succ j => simpa using ha j (by omega)
end
end Go.Proofs.YtnmibkkchgagbaaDoor.G
