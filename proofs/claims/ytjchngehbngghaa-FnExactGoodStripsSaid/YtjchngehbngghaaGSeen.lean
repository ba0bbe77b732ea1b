/- A map from whole numbers to bools that a call makes and keeps to itself, written with true alone: it reads as the list of the numbers written; its look-up and its store at the operation, for the walk. Conditions: as each law states them. -/
import Derived.Test.YtjchngehbngghaaAx0
import Derived.Test.YtjchngehbngghaaWMore
import Derived.Maps.OwnSet
import Derived.Maps.OwnOps
import Derived.MapViews
import Derived.OpenShut
namespace Go.Proofs.Ytjchngehbngghaa.Seen
open Go.Maps Go.RowKit Go.Proofs.YtjchngehbngghaaW.PrintWords
set_option linter.unusedVariables false

/-- The map in block b, of at most n entries, holds true at the numbers of L, nothing else. -/
def Holds (W : World) (b n : Nat) (L : List Int) : Prop := ∃ D : DataW Unit, W.ownsMap Try.prog 3 (plainElem Try.prog 4) b n D ∧ ∀ x : Int, (Lit.int .i64 x).wf = true → D.atKey (.int .i64 x) (.lit (.bool false)) = .lit (.bool (decide (x ∈ L)))
theorem Holds.made (w : World) : Holds (w.alloc (.map #[] 0)) w.heap.size 0 [] :=
  ⟨.map [], World.ownsMap_made w Try.prog 3 (plainElem Try.prog 4), fun x _ => rfl⟩
theorem Holds.kept {W W' : World} {b n : Nat} {L : List Int} {row : Option Nat} (h : Holds W b n L) (hg : W.grownBy W' row) (hne : some b ≠ row) : Holds W' b n L := by
  obtain ⟨D, h1, h2⟩ := h
  exact ⟨D, h1.kept hg hne, h2⟩
theorem Holds.lt {W : World} {b n : Nat} {L : List Int} (h : Holds W b n L) : b < W.heap.size := by
  obtain ⟨D, h1, _⟩ := h
  exact h1.lt
theorem zero4 (w : World) : (zeroValue 4).run Try.prog w = .ok (.bool false) w := by kernel_rfl
theorem bool_inv {v : Value} {z : DataW Unit × List MemPlace} (h : plainElem Try.prog 4 v = some z) : ∃ x : Bool, v = .bool x ∧ z.1 = .lit (.bool x) := by
  cases v <;> simp [plainElem, Try.underlying4] at h
  exact ⟨_, rfl, by rw [← h]⟩
section
variable (w : World) {ops : Array Oper} {rest : List Oper} {o : Oper} {a : Act} {Q : Exit → Act → World → Prop}
/-- 'seen[x]'. -/
theorem at_look (hg : o.guard = none) (m x : Operand) (hop : o.op = Op.lookup 54 m x false) (b n : Nat) (L : List Int) (hown : Holds w b n L) (hm : a.eval m = .map (some b)) (c : Int) (hc : (Lit.int .i64 c).wf = true) (hx : a.eval x = .int .i64 c)
    (hK : wpList Try.prog ops Q rest (a.put o.dst (.bool (decide (c ∈ L)))) w) : wpList Try.prog ops Q (o :: rest) a w := by
  obtain ⟨D, hD, hd⟩ := hown
  refine wpList_plain hg fun K' hK' => ?_
  obtain ⟨v, ps, hrun, hv⟩ := hD.lookup (int_keyed Try.underlying3) Try.underlying54 (zero4 w) (plainElem_bool Try.underlying4 false) (keyOf_int_mk Try.underlying3 hc)
  obtain ⟨y, rfl, hy⟩ := bool_inv hv
  rw [hd c hc] at hy
  simp only [DataW.lit.injEq, Lit.bool.injEq] at hy
  subst hy
  unfold Oper.wp
  simp [execOp, hop, hm, hx, hrun, Result.andThen]
  exact hK' _ _ hK
/-- 'seen[x] = true'. -/
theorem at_store (hg : o.guard = none) (m x v : Operand) (hop : o.op = Op.mapUpdate 54 m x v) (b n : Nat) (L : List Int) (hown : Holds w b n L) (hn : n < maxLen) (hm : a.eval m = .map (some b)) (c : Int) (hc : (Lit.int .i64 c).wf = true) (hx : a.eval x = .int .i64 c) (hv : a.eval v = .bool true)
    (hK : ∀ w', Holds w' b (n + 1) (c :: L) → w.grownBy w' (some b) → wpList Try.prog ops Q rest (a.put o.dst undef) w') : wpList Try.prog ops Q (o :: rest) a w := by
  obtain ⟨D, hD, hd⟩ := hown
  have hkey := keyOf_int_mk Try.underlying3 hc
  refine wpList_mapUpdate_own w hg m x v 54 hop 3 4 (int_keyed Try.underlying3) Try.underlying54 _ b n D hm hD hn _ _ _ hx hv hkey _ [] (plainElem_bool Try.underlying4 true) ?_
  intro w1 hown1 hgrow1
  refine hK w1 ⟨_, hown1, fun y hy => ?_⟩ hgrow1
  by_cases e : y = c
  · subst e
    rw [atKey_put_same hD.isMap ((int_keyed Try.underlying3).key hkey)]
    simp
  · rw [atKey_put_other (by simpa using e), hd y hy]
    simp [e]
end
end Go.Proofs.Ytjchngehbngghaa.Seen
