/- Small laws on rows of the call's own; a map from whole numbers to bools; the calls of slices.Clone, strconv.Itoa and strings.Join in the form of the print. Conditions: as each law states them. -/
import Derived.Test.YtnmibkkchgagbaaDoorWMore
import Derived.Lib.SliceRun
import Derived.Test.YtnmibkkchgagbaaDoorAx0
import Derived.Maps.OwnSet
import Derived.Maps.OwnOps
import Derived.MapViews
import Derived.OpenShut
import Derived.Test.YtnmibkkchgagbaaDoorShelf
namespace Go.Proofs.YtnmibkkchgagbaaDoor.G
open Go.RowKit Go.Proofs.YtnmibkkchgagbaaDoorW.PrintWords Go.Proofs.YtnmibkkchgagbaaDoorW.PrintLast Go.Proofs.YtnmibkkchgagbaaDoorW.PrintMore
set_option linter.unusedVariables false

/-- A store behind the first m elements. -/
theorem R_set_behind {α : Type} {d : Kd α} {e base g m cap : Nat} {ok : Nat → Prop} {W : World} {xs : List α} (h : d.R e W base ok (.slice (some ⟨g, 0, none⟩) m cap) xs) (o : Nat) (u : Value) (ho : m * d.sz ≤ o) :
    d.R e (W.setCell ⟨g, o, none⟩ u) base ok (.slice (some ⟨g, 0, none⟩) m cap) xs := by
  obtain ⟨h0, inner, ⟨hl, hown⟩, hr⟩ := h
  rcases hown with ⟨e1, _⟩ | ⟨g', cap', cur, e1, hb, hh, hnc, hcm, hsz, htk⟩
  · cases e1
  · injection e1 with ea en ec
    injection ea with ea
    injection ea with ea _ _
    subst ea; subst ec
    have hm : m = xs.length := en
    subst hm
    refine ⟨h0, inner, ⟨hl, .inr ⟨g, cap, cur.setIfInBounds o u, rfl, hb, blk_set hh o u, hnc, hcm, by simpa using hsz, ?_⟩⟩, hr.imp_ (fun _ _ hp => d.M_far (p := ⟨g, o, none⟩) hp (fun k hk => by have := hk.2; simp [Value.ownBlock] at this; exact this) u)⟩
    rw [Array.toList_setIfInBounds, List.take_set, List.set_eq_of_length_le, htk]
    rw [List.length_take]
    omega
theorem R_setCells_behind {α : Type} {d : Kd α} {e base g m cap : Nat} {ok : Nat → Prop} {xs : List α} : ∀ (vs : List Value) (o : Nat) {W : World}, d.R e W base ok (.slice (some ⟨g, 0, none⟩) m cap) xs → m * d.sz ≤ o →
    d.R e (W.setCells g o vs) base ok (.slice (some ⟨g, 0, none⟩) m cap) xs
  | [], _, _, h, _ => h
  | v :: r, o, W, h, ho => R_setCells_behind r (o + 1) (R_set_behind h o v ho) (by omega)
theorem below_setCells {B : Nat} {a : World} (b : Nat) (hb : B ≤ b) : ∀ (vs : List Value) (o : Nat) {w : World}, Below B a w → Below B a (w.setCells b o vs)
  | [], _, _, h => h
  | v :: r, o, w, h => below_setCells b hb r (o + 1) (h.setCell (p := ⟨b, o, none⟩) hb v)
/-- The cells of a row, all of them: there, and not frozen. -/
theorem R_cells {α : Type} {d : Kd α} {e base g n cap : Nat} {ok : Nat → Prop} {W : World} {xs : List α} (h : d.R e W base ok (.slice (some ⟨g, 0, none⟩) n cap) xs) (j : Nat) (hj : j < n * d.sz) :
    (W.cell? ⟨g, j, none⟩).isSome = true ∧ W.frozen? ⟨g, j, none⟩ = false := by
  obtain ⟨h0, inner, ⟨hl, hown⟩, hr⟩ := h
  rcases hown with ⟨e1, _⟩ | ⟨g', cap', cur, e1, hb, hh, hnc, hcm, hsz, htk⟩
  · cases e1
  · injection e1 with ea en ec
    injection ea with ea
    injection ea with ea _ _
    subst ea; subst ec
    have hlt : j < cur.size := by
      rw [hsz]
      have : n * d.sz ≤ cap * d.sz := Nat.mul_le_mul_right _ (by omega)
      omega
    exact ⟨by rw [blk_cell hh j]; simp [hlt], blk_frozen hh j⟩

/-- 'clear(s)', s a slice of n > 0 elements: all its cells hold the zero value's. -/
theorem run_clear {P : Program} (w : World) (t e ty : TypeId) (z : Value) (ht : P.underlying t = some (.slice e)) (hv : ∀ w, (zeroValue e).run P w = .ok z w) (h1 : ∀ v ∈ z.cells.toList, v.oneCell' = true) (b o n c : Nat) (hn : 0 < n)
    (hc : ∀ j, j < z.cells.size * n → (w.cell? ⟨b, o + j, none⟩).isSome = true ∧ w.frozen? ⟨b, o + j, none⟩ = false) :
    (Builtin.clear_ #[t] ty #[.slice (some ⟨b, o, none⟩) n c]).run P w = .ok (.tuple #[]) (w.setCells b o (Builtin.zeroCells z.cells n).toList) := by
  have hlen : (Builtin.zeroCells z.cells n).toList.length = z.cells.size * n := by simp [Builtin.zeroCells, Nat.mul_comm]
  have hst := run_storeCells_cells (P := P) b o (Builtin.zeroCells z.cells n).toList 0 w (fun j hj => (hc j (by rw [hlen] at hj; exact hj)).1) (fun j hj => (hc j (by rw [hlen] at hj; exact hj)).2) (fun v hv' => by
    simp only [Builtin.zeroCells, Array.toList_map, List.mem_map] at hv'
    obtain ⟨i, hi, rfl⟩ := hv'
    have hi2 : i < n * z.cells.size := by simpa using hi
    have hpos : 0 < z.cells.size := by
      rcases Nat.eq_zero_or_pos z.cells.size with h0 | h0
      · rw [h0] at hi2; simp at hi2
      · exact h0
    have hlt : i % z.cells.size < z.cells.size := Nat.mod_lt _ hpos
    rw [getElem!_pos z.cells _ hlt]
    exact h1 _ (by simp))
  simp only [Nat.add_zero] at hst
  obtain ⟨m, rfl⟩ : ∃ m, n = m + 1 := ⟨n - 1, by omega⟩
  simp [Builtin.clear_, run_underlying ht, hv, hst]

/-! ### a list filtered in place -/
section
variable {α : Type}
/-- After j elements have been seen and i of them kept, the row holds L. -/
structure Sieve (p : α → Bool) (l0 : List α) (i j : Nat) (L : List α) : Prop where
  len : L.length = l0.length
  lt : i < j
  le : j ≤ l0.length
  low : L.take i = (l0.take j).filter (fun x => !p x)
  high : L.drop j = l0.drop j
theorem Sieve.skip {p : α → Bool} {l0 L : List α} {i j : Nat} (h : Sieve p l0 i j L) (z : α) (hj : j < l0.length) (hp : p (l0.getD j z) = true) : Sieve p l0 i (j + 1) L := by
  refine ⟨h.len, by have := h.lt; omega, hj, ?_, ?_⟩
  · rw [List.take_succ_eq_append_getElem hj, List.filter_append, ← h.low]
    have : p l0[j] = true := by simpa [List.getD_eq_getElem?_getD, hj] using hp
    simp [this]
  · rw [← List.drop_drop, ← List.drop_drop, h.high]
theorem Sieve.keep {p : α → Bool} {l0 L : List α} {i j : Nat} (h : Sieve p l0 i j L) (z : α) (hj : j < l0.length) (hp : p (l0.getD j z) = false) : Sieve p l0 (i + 1) (j + 1) (L.set i (l0.getD j z)) := by
  have hi : i < L.length := by have := h.lt; have := h.len; omega
  refine ⟨by rw [List.length_set]; exact h.len, by have := h.lt; omega, hj, ?_, ?_⟩
  · rw [List.take_succ_eq_append_getElem (by rw [List.length_set]; exact hi), List.take_set, List.set_eq_of_length_le (by rw [List.length_take]; omega), h.low, List.take_succ_eq_append_getElem hj, List.filter_append]
    have e : l0.getD j z = l0[j] := by simp [List.getD_eq_getElem?_getD, hj]
    rw [e] at hp
    rw [e]
    simp [hp, List.getElem_set_self]
  · rw [List.drop_set, if_pos (by have := h.lt; omega), ← List.drop_drop, ← List.drop_drop, h.high]
theorem Sieve.at {p : α → Bool} {l0 L : List α} {i j : Nat} (h : Sieve p l0 i j L) (z : α) (hj : j < l0.length) : L.getD j z = l0.getD j z := by
  have h1 : (L.drop j)[0]? = (l0.drop j)[0]? := by rw [h.high]
  simp only [List.getElem?_drop, Nat.add_zero] at h1
  rw [List.getD_eq_getElem?_getD, List.getD_eq_getElem?_getD, h1]
theorem Sieve.done {p : α → Bool} {l0 L : List α} {i : Nat} (h : Sieve p l0 i l0.length L) : L.take i = l0.filter (fun x => !p x) := by
  rw [h.low, List.take_length]
theorem Sieve.start {p : α → Bool} {l0 : List α} {i : Nat} (z : α) (hi : i < l0.length) (ht : p (l0.getD i z) = true) (hn : ∀ j, j < i → p (l0.getD j z) = false) : Sieve p l0 i (i + 1) l0 := by
  refine ⟨rfl, by omega, hi, ?_, rfl⟩
  have e : p l0[i] = true := by simpa [List.getD_eq_getElem?_getD, hi] using ht
  rw [List.take_succ_eq_append_getElem hi, List.filter_append]
  have e2 : (l0.take i).filter (fun x => !p x) = l0.take i := by
    rw [List.filter_eq_self]
    intro x hx
    obtain ⟨j, hj, rfl⟩ := List.mem_iff_getElem.1 hx
    rw [List.length_take] at hj
    have := hn j (by omega)
    rw [List.getElem_take]
    have h3 : l0.getD j z = l0[j]'(by omega) := by simp [List.getD_eq_getElem?_getD, show j < l0.length by omega]
    rw [h3] at this
    simp [this]
  simp [e, e2]
theorem filter_none {p : α → Bool} {l0 : List α} (z : α) (hn : ∀ j, j < l0.length → p (l0.getD j z) = false) : l0.filter (fun x => !p x) = l0 := by
  rw [List.filter_eq_self]
  intro x hx
  obtain ⟨j, hj, rfl⟩ := List.mem_iff_getElem.1 hx
  have := hn j hj
  have h3 : l0.getD j z = l0[j] := by simp [List.getD_eq_getElem?_getD, hj]
  rw [h3] at this
  simp [this]
/-- Where the first element lies of which p holds, or -1. -/
def idxOf (p : α → Bool) : List α → Nat → Int
  | [], _ => -1
  | x :: r, i => if p x then (i : Int) else idxOf p r (i + 1)
theorem idxOf_hit (p : α → Bool) (z : α) : ∀ (l : List α) (i k : Nat), k < l.length → p (l.getD k z) = true → (∀ j, j < k → p (l.getD j z) = false) → idxOf p l i = ((i + k : Nat) : Int)
  | [], _, _, h, _, _ => by simp at h
  | x :: r, i, 0, _, h, _ => by
    have : p x = true := by simpa using h
    simp [idxOf, this]
  | x :: r, i, k + 1, hk, h, hn => by
    have h0 : p x = false := by simpa using hn 0 (by omega)
    rw [idxOf, h0, if_neg (by simp), idxOf_hit p z r (i + 1) k (by simpa using hk) (by simpa using h) (fun j hj => by simpa using hn (j + 1) (by omega))]
    congr 1; omega
theorem idxOf_miss (p : α → Bool) (z : α) : ∀ (l : List α) (i : Nat), (∀ j, j < l.length → p (l.getD j z) = false) → idxOf p l i = -1
  | [], _, _ => rfl
  | x :: r, i, hn => by
    have h0 : p x = false := by simpa using hn 0 (by simp)
    rw [idxOf, h0, if_neg (by simp)]
    exact idxOf_miss p z r (i + 1) (fun j hj => by simpa using hn (j + 1) (by simpa using hj))
theorem idxOf_nonneg (p : α → Bool) : ∀ (l : List α) (i : Nat), decide (0 ≤ idxOf p l i) = l.any p
  | [], _ => by simp [idxOf]
  | x :: r, i => by
    rw [idxOf]
    cases h : p x
    · simp only [List.any_cons, h, Bool.false_or]
      rw [if_neg (by simp)]
      exact idxOf_nonneg p r (i + 1)
    · simp [h]
/-- What 'idxOf' tells. -/
theorem idxOf_spec (p : α → Bool) (z : α) : ∀ (l : List α) (i : Nat), (idxOf p l i = -1 ∧ ∀ j, j < l.length → p (l.getD j z) = false) ∨ ∃ k, k < l.length ∧ idxOf p l i = ((i + k : Nat) : Int) ∧ p (l.getD k z) = true ∧ ∀ j, j < k → p (l.getD j z) = false
  | [], i => .inl ⟨rfl, fun j hj => absurd hj (Nat.not_lt_zero _)⟩
  | y :: r, i => by
    cases h : p y with
    | true => exact .inr ⟨0, by simp, by simp [idxOf, h], by simpa using h, fun j hj => absurd hj (Nat.not_lt_zero _)⟩
    | false =>
      rcases idxOf_spec p z r (i + 1) with ⟨e, ha⟩ | ⟨k, hk, e, ht, ha⟩
      · refine .inl ⟨by simp [idxOf, h, e], fun j hj => ?_⟩
        cases j with
        | zero => simpa using h
        | succ j => simpa using ha j (by simpa using hj)
      · refine .inr ⟨k + 1, by simpa using hk, by rw [idxOf, h, if_neg (by simp), e]; congr 1; omega, by simpa using ht, fun j hj => ?_⟩
        cases j with
        | zero => simpa using h
        | succ j => simpa using ha j (by omega)
end
end Go.Proofs.YtnmibkkchgagbaaDoor.G
namespace Go.Proofs.YtnmibkkchgagbaaDoor.Seen
open Go.Maps Go.RowKit Go.Proofs.YtnmibkkchgagbaaDoorW.PrintWords
set_option linter.unusedVariables false

/-- The map in block b, of at most n entries, holds true at the numbers of L, nothing else. -/
def Holds (W : World) (b n : Nat) (L : List Int) : Prop := ∃ D : DataW Unit, W.ownsMap Tryd.prog 3 (plainElem Tryd.prog 4) b n D ∧ ∀ x : Int, (Lit.int .i64 x).wf = true → D.atKey (.int .i64 x) (.lit (.bool false)) = .lit (.bool (decide (x ∈ L)))
theorem Holds.made (w : World) : Holds (w.alloc (.map #[] 0)) w.heap.size 0 [] :=
  ⟨.map [], World.ownsMap_made w Tryd.prog 3 (plainElem Tryd.prog 4), fun x _ => rfl⟩
theorem Holds.kept {W W' : World} {b n : Nat} {L : List Int} {row : Option Nat} (h : Holds W b n L) (hg : W.grownBy W' row) (hne : some b ≠ row) : Holds W' b n L := by
  obtain ⟨D, h1, h2⟩ := h
  exact ⟨D, h1.kept hg hne, h2⟩
theorem Holds.lt {W : World} {b n : Nat} {L : List Int} (h : Holds W b n L) : b < W.heap.size := by
  obtain ⟨D, h1, _⟩ := h
  exact h1.lt
theorem zero4 (w : World) : (zeroValue 4).run Tryd.prog w = .ok (.bool false) w := by kernel_rfl
theorem bool_inv {v : Value} {z : DataW Unit × List MemPlace} (h : plainElem Tryd.prog 4 v = some z) : ∃ x : Bool, v = .bool x ∧ z.1 = .lit (.bool x) := by
  cases v <;> simp [plainElem, Tryd.underlying4] at h
  exact ⟨_, rfl, by rw [← h]⟩
section
variable (w : World) {ops : Array Oper} {rest : List Oper} {o : Oper} {a : Act} {Q : Exit → Act → World → Prop}
/-- 'seen[x]'. -/
theorem at_look (hg : o.guard = none) (m x : Operand) (hop : o.op = Op.lookup 67 m x false) (b n : Nat) (L : List Int) (hown : Holds w b n L) (hm : a.eval m = .map (some b)) (c : Int) (hc : (Lit.int .i64 c).wf = true) (hx : a.eval x = .int .i64 c)
    (hK : wpList Tryd.prog ops Q rest (a.put o.dst (.bool (decide (c ∈ L)))) w) : wpList Tryd.prog ops Q (o :: rest) a w := by
  obtain ⟨D, hD, hd⟩ := hown
  refine wpList_plain hg fun K' hK' => ?_
  obtain ⟨v, ps, hrun, hv⟩ := hD.lookup (int_keyed Tryd.underlying3) Tryd.underlying67 (zero4 w) (plainElem_bool Tryd.underlying4 false) (keyOf_int_mk Tryd.underlying3 hc)
  obtain ⟨y, rfl, hy⟩ := bool_inv hv
  rw [hd c hc] at hy
  simp only [DataW.lit.injEq, Lit.bool.injEq] at hy
  subst hy
  unfold Oper.wp
  simp [execOp, hop, hm, hx, hrun, Result.andThen]
  exact hK' _ _ hK
/-- 'seen[x] = true'. -/
theorem at_store (hg : o.guard = none) (m x v : Operand) (hop : o.op = Op.mapUpdate 67 m x v) (b n : Nat) (L : List Int) (hown : Holds w b n L) (hn : n < maxLen) (hm : a.eval m = .map (some b)) (c : Int) (hc : (Lit.int .i64 c).wf = true) (hx : a.eval x = .int .i64 c) (hv : a.eval v = .bool true)
    (hK : ∀ w', Holds w' b (n + 1) (c :: L) → w.grownBy w' (some b) → wpList Tryd.prog ops Q rest (a.put o.dst undef) w') : wpList Tryd.prog ops Q (o :: rest) a w := by
  obtain ⟨D, hD, hd⟩ := hown
  have hkey := keyOf_int_mk Tryd.underlying3 hc
  refine wpList_mapUpdate_own w hg m x v 67 hop 3 4 (int_keyed Tryd.underlying3) Tryd.underlying67 _ b n D hm hD hn _ _ _ hx hv hkey _ [] (plainElem_bool Tryd.underlying4 true) ?_
  intro w1 hown1 hgrow1
  refine hK w1 ⟨_, hown1, fun y hy => ?_⟩ hgrow1
  by_cases e : y = c
  · subst e
    rw [atKey_put_same hD.isMap ((int_keyed Tryd.underlying3).key hkey)]
    simp
  · rw [atKey_put_other (by simpa using e), hd y hy]
    simp [e]
end
end Go.Proofs.YtnmibkkchgagbaaDoor.Seen
namespace Go.Proofs.YtnmibkkchgagbaaDoor.All
open Go.RowKit Go.Proofs.YtnmibkkchgagbaaDoorW.PrintWords Go.Proofs.YtnmibkkchgagbaaDoorW.PrintLast Go.Proofs.YtnmibkkchgagbaaDoorW.PrintMore
set_option linter.unusedVariables false
set_option linter.unusedSimpArgs false

def slices_Clone_int_int.f (l0 : List Int) : Option (List Int) := if l0.length < 17592186044416 then some l0 else none
set_option maxHeartbeats 8000000 in
set_option maxRecDepth 100000 in
theorem slices_Clone_int_int.calls (A0 : Option Addr) (c0 : Nat) (l0 : List Int) (r : List Int) (w : World) (hr0 : Kd.C (Kd.int .i64) w A0 l0.length l0) (hc0 : l0.length ≤ c0) (h : slices_Clone_int_int.f l0 = some r) :
    Calls Tryd.prog 64 #[.slice A0 l0.length c0] w fun e w' => ∃ v0_ : Value, e = .returned (v0_) ∧ Kd.R (Kd.int .i64) 3 w' w.heap.size (fun _ => True) v0_ r ∧ Below w.heap.size w w' := by
  have HB := Aside0.mk (Below.refl w.heap.size w)
  unfold slices_Clone_int_int.f at h
  by_cases c2 : l0.length < 17592186044416
  · rw [if_pos c2] at h
    obtain rfl := Option.some.inj h
    have HR0 := Aside0.mk hr0
    have LM := Aside0.mk c2
    clear hr0 h c2
    cases A0 with
    | none =>
      have hnil : l0 = [] := by
        cases l0 with
        | nil => rfl
        | cons x r =>
          obtain ⟨ad, e, _⟩ := Kd.at_int HR0.out 0 (by omega) (by simp)
          cases e
      subst hnil
      clear HR0
      have hrun : ∀ w, Sem.run Tryd.prog (binOp BinOp.eql 22 (.slice none 0 c0) (.slice none 0 0)) w = .ok (.bool true) w := fun w => by kernel_rfl
      go_enter Tryd.func64, Tryd.ntmps64
      go_wp2
      go_ret
      exact ⟨_, rfl, Kd.R_nil _ _ _ _ _, HB.out⟩
    | some ad =>
      have hrun : ∀ w, Sem.run Tryd.prog (binOp BinOp.eql 22 (.slice (some ad) l0.length c0) (.slice none 0 0)) w = .ok (.bool false) w := fun w => by kernel_rfl
      go_enter Tryd.func64, Tryd.ntmps64
      go_wp2_with (first
        | ((with_reducible refine gate_dst (N := 5) rfl ?_); refine Kd.R_lit (Kd.int .i64) _ 3 ?hg (N := 5) ?hd (xs := ([] : List Int)) (inner := []) (ok := fun _ => True) (okp := fun _ => True) ?hr ?hp (fun _ hk => hk) trivial (Below.refl _ _) (Nat.le_refl _) (by simp) ?_; (case hd => rfl); (case hg => rfl); (case hr => first | (go_simp; done) | (go_simp; rfl)); (case hp => exact (Reps.none _ _)); intro v173 w3 ho4 hb hg_ hnew_; clear hg_ hnew_; have HO174 := Aside0.mk (Kd.R_lower ho4 (Nat.le_refl _)); have n1_ := Aside0.mk (below_step HB.out hb); clear HB; have HB := n1_; clear n1_; clear hb ho4)
        | ((with_reducible refine gate_builtin (b := .append) (xs := #[.tmp 5, .tmp 6]) rfl ?_); at_builtin; refine Kd.R_append_rows (Kd.int .i64) (w0 := w) w.heap.size rfl (.tmp 5) (.tmp 6) 22 3 (.int .i64 0) 8 rfl Tryd.underlying22 info3 rfl (by decide) (by omega) v173 [] l0 _ _ _ (fun _ => True) (fun _ => False) rfl rfl ?aO ?aR (fun _ _ h => h) (fun _ h => h.elim) ?aF ?aB ?aS ?aL ?_; (case aR => repeat (first | exact (Kd.C_below HR0.out HB.out) | (with_reducible refine Kd.C_alloc ?_ _) | (with_reducible refine Kd.C_drewN ?_ _) | (with_reducible refine Kd.C_drew ?_))); (case aB => exact (by repeat (first | (with_reducible first | exact HB.out | apply below_alloc | apply pw_below_drewN | apply below_drew1) | exact HB.out))); (case aF => exact (fun _ _ => trivial)); (case aO => exact (by (with_reducible repeat (first | apply Kd.R_alloc | apply Kd.R_drewN | apply Kd.R_drew)); exact HO174.out)); (case aS => exact (below_size (by repeat (first | (with_reducible first | exact HB.out | apply below_alloc | apply pw_below_drewN | apply below_drew1) | exact HB.out)))); (case aL => have := LM.out; simp; omega); intro v176 w5 ho hb hg hat; have n0_ := Aside0.mk (hb); have n1_ := Aside0.mk (ho); clear HB; clear HO174; have HB := n0_; have HO177 := n1_; clear n0_ n1_; clear ho hb hg hat))
      go_ret
      exact ⟨_, rfl, HO177.out, HB.out⟩
  · rw [if_neg c2] at h
    cases h
end Go.Proofs.YtnmibkkchgagbaaDoor.All
namespace Go.Proofs.YtnmibkkchgagbaaDoor.All
open Go.RowKit Go.Proofs.YtnmibkkchgagbaaDoorW.PrintWords Go.Proofs.YtnmibkkchgagbaaDoorW.PrintLast Go.Proofs.YtnmibkkchgagbaaDoorW.PrintMore
set_option linter.unusedVariables false

def strconv_Itoa.f (a0 : Int) : Option ByteArray := if 0 ≤ a0 ∧ a0 < 100 then some ⟨(Lib.decDigits a0.toNat).toArray⟩ else none
theorem strconv_Itoa.calls (a0 : Int) (r : ByteArray) (w : World) (h : strconv_Itoa.f a0 = some r) :
    Calls Tryd.prog 72 #[.int .i64 a0] w fun e w' => e = .returned (.string r) ∧ Below w.heap.size w w' := by
  unfold strconv_Itoa.f at h
  by_cases c : 0 ≤ a0 ∧ a0 < 100
  · rw [if_pos c] at h
    obtain rfl := Option.some.inj h
    obtain ⟨n, rfl⟩ := Int.eq_ofNat_of_zero_le c.1
    refine (Tryd.strconv_Itoa_small n (by omega) w).mono ?_
    rintro e w' ⟨rfl, rfl⟩
    exact ⟨rfl, Below.refl _ _⟩
  · rw [if_neg c] at h
    cases h

/-- The address of a row of the call's own names a block's cells. -/
theorem spot_of_R {α : Type} {d : Kd α} {e base : Nat} {w : World} {ok : Nat → Prop} {A : Option Addr} {n c : Nat} {xs : List α} (h : d.R e w base ok (.slice A n c) xs) : ∀ ad, A = some ad → ad.spot = none := by
  intro ad e1
  subst e1
  obtain ⟨h0, inner, ⟨hl, hown⟩, hr⟩ := h
  rcases hown with ⟨e1, _⟩ | ⟨g', cap', cur, e1, _⟩
  · cases e1
  · injection e1 with ea en ec
    injection ea with ea
    subst ea
    rfl

def strings_Join.f (l0 : List ByteArray) (a1 : ByteArray) : Option ByteArray :=
  if l0.length ≤ 140737488355328 ∧ (Lib.join (l0.map (·.data.toList)) a1.data.toList).length ≤ 140737488355328 then some ⟨(Lib.join (l0.map (·.data.toList)) a1.data.toList).toArray⟩ else none
theorem strings_Join.calls (A0 : Option Addr) (c0 : Nat) (l0 : List ByteArray) (a1 : ByteArray) (r : ByteArray) (w : World) (hr0 : Kd.C Kd.string w A0 l0.length l0) (hc0 : l0.length ≤ c0) (hs : ∀ ad, A0 = some ad → ad.spot = none) (h : strings_Join.f l0 a1 = some r) :
    Calls Tryd.prog 73 #[.slice A0 l0.length c0, .string a1] w fun e w' => e = .returned (.string r) ∧ Below w.heap.size w w' := by
  unfold strings_Join.f at h
  by_cases c : l0.length ≤ 140737488355328 ∧ (Lib.join (l0.map (·.data.toList)) a1.data.toList).length ≤ 140737488355328
  · rw [if_pos c] at h
    obtain rfl := Option.some.inj h
    cases l0 with
    | nil =>
      refine (Tryd.strings_Join_none A0 c0 a1 w).mono ?_
      rintro e w' ⟨rfl, rfl⟩
      exact ⟨rfl, Below.refl _ _⟩
    | cons x xs =>
      obtain ⟨ad, e, hx0⟩ := Kd.at_string hr0 0 (by omega) (by simp)
      subst e
      have hsp := hs ad rfl
      obtain ⟨bk, o, sp⟩ := ad
      subst hsp
      refine Tryd.strings_Join bk o c0 (x :: xs) a1 w ?_ (World.block_lt_of_cell? w _ hx0) c.1 hc0 c.2
      intro j y hj
      obtain ⟨ad, e, hx⟩ := Kd.at_string hr0 (j : Int) (by omega) (by have := (List.getElem?_eq_some_iff.1 hj).1; omega)
      cases e
      have e2 : rdOf ByteArray.empty (x :: xs) (j : Int) = y := by simp [rdOf, List.getD, hj]
      rw [e2] at hx
      simp only [Int.toNat_natCast] at hx
      rw [← hx]
      unfold Addr.add
      by_cases hj0 : j = 0
      · rw [if_pos hj0, hj0]
        rfl
      · rw [if_neg hj0]
  · rw [if_neg c] at h
    cases h
end Go.Proofs.YtnmibkkchgagbaaDoor.All
