/- The plain law of FirstGoodChomp: the printed function of the program tells the first good bite as the reference's does. Conditions: the law's own. -/
import Derived.Test.YtnmibkkchgagbaaDoorAx20
import Derived.Test.YtnmibkkchgagbaaDoorPHeap2
namespace Go.Proofs.YtnmibkkchgagbaaDoor.Pure
open Go.RowKit Go.Proofs.YtnmibkkchgagbaaDoor.All Go.Proofs.YtnmibkkchgagbaaDoorW.PrintWords Go.Proofs.YtnmibkkchgagbaaDoorW.PrintLast Go.Proofs.YtnmibkkchgagbaaDoor.PEv Go.Proofs.YtnmibkkchgagbaaDoor.PChomp Go.Proofs.YtnmibkkchgagbaaDoor.PHeap2 Go.Proofs.YtnmibkkchgagbaaDoor.PFate

def fres (l : List Int) : Int × Int × Bool := match (gres l).1 with
  | [] => (0, 0, false)
  | m :: _ => (rd m 0, rd m 1, true)
theorem gres_mem {l m : List Int} (h : m ∈ (gres l).1) : m.length = 2 := by
  unfold gres at h
  split at h
  · obtain ⟨a, y, e, _⟩ := mv_mem (List.mem_filter.1 h).1
    rw [e]
    rfl
  · simp at h
theorem spec_fres (l : List Int) (hl : l.length ≤ 4000000) : spec_FirstGoodChomp.f l = some (fres l) := by
  unfold spec_FirstGoodChomp.f spec_GoodChomps.f fres
  rw [if_pos hl, Option.bind_some]
  have hm := fun m => @gres_mem l m
  by_cases hc : isC l = true
  · have h2 : (gres l).2 = true := by unfold gres; rw [if_pos hc]
    rw [h2, if_pos rfl]
    generalize (gres l).1 = G at hm
    cases G with
    | nil => rfl
    | cons m r =>
      have := hm m (by simp)
      simp only [rd_L2, Int.toNat_zero, List.getD_cons_zero, List.length_cons]
      rw [if_neg (by omega), if_pos (by omega), if_pos (by omega), if_pos (by omega)]
  · have h2 : gres l = ([], false) := by unfold gres; rw [if_neg hc]
    rw [h2]
    rfl
theorem impl_fres (l : List Int) (hl : l.length ≤ 4000000) : impl_FirstGoodChomp.f l = some (fres l) := by
  unfold impl_FirstGoodChomp.f impl_GoodChomps.f fres
  rw [if_pos hl, Option.bind_some]
  have hm := fun m => @gres_mem l m
  generalize (gres l).1 = G at hm
  cases G with
  | nil => rfl
  | cons m r =>
    have := hm m (by simp)
    simp only [rd_L2, Int.toNat_zero, List.getD_cons_zero, List.length_cons]
    rw [if_neg (by omega), if_pos (by omega), if_pos (by omega), if_pos (by omega)]
theorem FnExactFirstGoodChomp : laws_FnExactFirstGoodChomp.Pure := by
  intro l0 h1 h2 h3
  apply Ev.rounds
  simp only [laws_FnExactFirstGoodChomp.f]
  by_cases hb : (l0.length : Int) > 1048576
  · exact pos hb (Ev.now _)
  refine neg hb ?_
  have hl : l0.length ≤ 4000000 := by omega
  refine Ev.bind (PCopy.copy_ev l0 hl) ?_
  rw [spec_fres l0 hl]
  refine bound (Ev.bind (PCopy.copy_ev l0 hl) ?_)
  rw [impl_fres l0 hl]
  refine bound (pos rfl (pos rfl ?_))
  refine Ev.step (f := fun k => (laws_toIntS.f k l0).bind fun t218 => ((laws_eqIntS.f k l0 t218).bind fun t221 => (if t221 = true then (some true) else (some false)))) (fun k => ?_) ?_
  · simp only [laws_FnExactFirstGoodChomp.j0]
    rw [if_neg (by simp)]
  · refine Ev.bind (PCopy.copy_ev l0 hl) ?_
    exact Ev.bind (PInt.eqS l0 hl) (pos rfl (Ev.now _))
end Go.Proofs.YtnmibkkchgagbaaDoor.Pure
