/- GoodKept of the program and of the reference answer alike, and its result is new memory. Conditions: none; this text speaks of the printed Lean functions alone. -/
import Derived.Test.YtoplnaobaedciaaPKept
import Derived.Test.YtoplnaobaedciaaAx12
import Derived.Test.YtoplnaobaedciaaPBar
import Derived.Test.YtoplnaobaedciaaPEv
namespace Go.Proofs.Ytoplnaobaedciaa.OwnFnExactGoodKept
open Go.RowKit Go.Proofs.Ytoplnaobaedciaa.All Go.Proofs.YtoplnaobaedciaaW.PrintWords Go.Proofs.YtoplnaobaedciaaW.PrintLast Go.Proofs.Ytoplnaobaedciaa.PKept

/-- Those of them that are lost. -/
def goods (a b : Int) : List S31 × Bool := ((moves a b).1.filter (fun x => !decide (heapOf x > 0)), (moves a b).2)
theorem heap_ge : ∀ i j : Fin 12, decide (Go.bits .xor .i64 (wrap64 (((i.val : Int) + 1) - 1)) (wrap64 (((j.val : Int) + 1) - 1)) ≥ 0) = true := by decide +kernel
theorem heap_nonneg (x : S31) (h : ok2 x.f0 x.f1 = true) : 0 ≤ heapOf x := by
  have h1 := ok2_le h
  have h2 := heap_ge ⟨(x.f0 - 1).toNat, by omega⟩ ⟨(x.f1 - 1).toNat, by omega⟩
  have e1 : (((x.f0 - 1).toNat : Nat) : Int) + 1 = x.f0 := by omega
  have e2 : (((x.f1 - 1).toNat : Nat) : Int) + 1 = x.f1 := by omega
  simp only [e1, e2, ge_iff_le, decide_eq_true_eq] at h2
  exact h2
theorem seg_mem {g : Int → S31} {i n : Int} {x : S31} (h : x ∈ seg g i n) : ∃ j : Int, i ≤ j ∧ j < n ∧ x = g j := by
  simp only [seg, List.mem_map, List.mem_range] at h
  obtain ⟨j, hj, rfl⟩ := h
  exact ⟨i + j, by omega, by omega, rfl⟩
theorem kept_ok {a b : Int} (h : ok2 a b = true) : ∀ x ∈ keptL a b, ok2 x.f0 x.f1 = true := by
  have h1 := ok2_le h
  intro x hx
  rcases List.mem_append.1 hx with hx | hx
  · obtain ⟨j, h2, h3, rfl⟩ := seg_mem hx
    simp [ok2]; omega
  · obtain ⟨j, h2, h3, rfl⟩ := seg_mem hx
    simp [ok2]; omega
theorem spec_go (l : List S31) (hl : l.length ≤ 2000) (hok : ∀ x ∈ l, ok2 x.f0 x.f1 = true) : ∀ (d i : Nat) (acc : List S31), i ≤ l.length → l.length - i = d → acc.length ≤ i → Ev (fun k => spec_GoodKept.l0 k acc l (l.length : Int) (i : Int)) (acc ++ (l.drop i).filter (fun x => !decide (heapOf x > 0)), true) := by
  intro d
  induction d with
  | zero =>
    intro i acc h1 h2 h3
    rw [List.drop_of_length_le (by omega), List.filter_nil, List.append_nil]
    exact Ev.step (f := fun _ => some (acc, true)) (fun k => by simp only [spec_GoodKept.l0]; rw [if_neg (by omega)]) (Ev.now _)
  | succ d ih =>
    intro i acc h1 h2 h3
    have hi : i < l.length := by omega
    have er : rd_T31 l (i : Int) = l[i] := by simp [rd_T31, List.getD_eq_getElem?_getD, hi]
    have hge := heap_nonneg l[i] (hok _ (List.getElem_mem hi))
    have ed : l.drop i = l[i] :: l.drop (i + 1) := List.drop_eq_getElem_cons hi
    rw [ed]
    by_cases hz : heapOf l[i] = 0
    · rw [List.filter_cons_of_pos (by rw [hz]; rfl)]
      have := ih (i + 1) (acc ++ [l[i]]) (by omega) (by omega) (by simp; omega)
      rw [List.append_assoc, List.singleton_append] at this
      refine Ev.step (f := fun k => spec_GoodKept.l0 k (acc ++ [l[i]]) l (l.length : Int) ((i + 1 : Nat) : Int)) (fun k => ?_) this
      simp only [spec_GoodKept.l0]
      rw [if_pos (by omega), if_pos (by omega), if_pos (by omega), er]
      rw [show spec_laHeap.f l[i].f0 l[i].f1 = some (heapOf l[i]) from rfl]
      simp only [Option.bind_some]
      rw [if_pos hz, if_pos (by omega), wrap_id (by omega) (by omega)]
      rfl
    · rw [List.filter_cons_of_neg (by simp; omega)]
      refine Ev.step (f := fun k => spec_GoodKept.l0 k acc l (l.length : Int) ((i + 1 : Nat) : Int)) (fun k => ?_) (ih (i + 1) acc (by omega) (by omega) (by omega))
      simp only [spec_GoodKept.l0]
      rw [if_pos (by omega), if_pos (by omega), if_pos (by omega), er]
      rw [show spec_laHeap.f l[i].f0 l[i].f1 = some (heapOf l[i]) from rfl]
      simp only [Option.bind_some]
      rw [if_neg hz, wrap_id (by omega) (by omega)]
      rfl
theorem spec_goods (a b : Int) : Ev (fun k => spec_GoodKept.f k a b) (goods a b) := by
  unfold goods moves spec_GoodKept.f
  simp only [good_eq, Option.bind_some]
  cases h : ok2 a b
  · exact Ev.now _
  · have := ok2_le h
    refine Ev.bind (spec_kept a b (by omega) (by omega)) ?_
    exact spec_go (keptL a b) (keptL_length a b (by omega) (by omega)) (kept_ok h) _ 0 [] (by omega) rfl (by simp)
theorem impl_goods (a b : Int) : Ev (fun k => impl_GoodKept.f k a b) (goods a b) := by
  unfold goods impl_GoodKept.f
  exact Ev.bind (impl_moves a b) (Ev.now _)
theorem goods_length (a b : Int) : (goods a b).1.length ≤ 2000 := Nat.le_trans (List.length_filter_le _ _) (moves_length a b)
theorem pure (a b : Int) (_ : (Lit.int .i64 a).wf = true) (_ : (Lit.int .i64 b).wf = true) : ∃ k, laws_FnExactGoodKept.f k a b = some true := by
  refine Ev.rounds (r := true) ?_
  have hs := spec_goods a b
  have hi := impl_goods a b
  have hl : (goods a b).1.length ≤ 1000000 := Nat.le_trans (goods_length a b) (by omega)
  have he := PBar.eqS (goods a b).1 hl
  obtain ⟨m, y, hm0, hm1, hm2⟩ := PBar.marked (goods a b).1 hl
  unfold laws_FnExactGoodKept.f
  simp only [laws_toBar.f, Option.bind_some]
  refine Ev.bind hs (Ev.bind hi (Ev.bind he ?_))
  refine PEv.pos rfl ?_
  refine Ev.step (f := fun k => (laws_markBarS.f k (goods a b).1 1).bind fun q => ((laws_heldBarS.f k q.2 1).bind fun t => (if t < 0 then (some false) else (if t = q.1 then ((impl_GoodKept.f k a b).bind fun q4 => ((laws_eqBarS.f k q4.1 (goods a b).1).bind fun t2 => (if t2 = true then (laws_FnExactGoodKept.j1 k q.2 q.1 (q4.2 != (goods a b).2)) else (laws_FnExactGoodKept.j1 k q.2 q.1 true)))) else (some false))))) (fun k => by simp only [laws_FnExactGoodKept.j0]; rw [if_neg (by simp)]; rfl) ?_
  refine Ev.bind hm1 (Ev.bind hm2 ?_)
  refine PEv.neg (show ¬ m < 0 by omega) (PEv.pos rfl ?_)
  refine Ev.bind hi (Ev.bind he ?_)
  refine PEv.pos rfl ?_
  refine Ev.step (f := fun k => (laws_heldBarS.f k y 1).bind fun t => (if t < 0 then (some false) else (if t = m then (some true) else (some false)))) (fun k => by simp only [laws_FnExactGoodKept.j1]; rw [if_neg (by simp)]) ?_
  refine Ev.bind hm2 ?_
  exact PEv.neg (show ¬ m < 0 by omega) (PEv.pos rfl (Ev.now _))

end Go.Proofs.Ytoplnaobaedciaa.OwnFnExactGoodKept
