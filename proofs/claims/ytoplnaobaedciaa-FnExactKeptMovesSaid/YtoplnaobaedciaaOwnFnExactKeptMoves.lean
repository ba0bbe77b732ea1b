/- KeptMoves of the program and of the reference answer alike, and its result is new memory. Conditions: none; this text speaks of the printed Lean functions alone. -/
import Derived.Test.YtoplnaobaedciaaPKept
import Derived.Test.YtoplnaobaedciaaAx9
import Derived.Test.YtoplnaobaedciaaPBar
import Derived.Test.YtoplnaobaedciaaPEv
namespace Go.Proofs.Ytoplnaobaedciaa.OwnFnExactKeptMoves
open Go.RowKit Go.Proofs.Ytoplnaobaedciaa.All Go.Proofs.YtoplnaobaedciaaW.PrintWords Go.Proofs.YtoplnaobaedciaaW.PrintLast Go.Proofs.Ytoplnaobaedciaa.PKept

theorem pure (a b : Int) (_ : (Lit.int .i64 a).wf = true) (_ : (Lit.int .i64 b).wf = true) : ∃ k, laws_FnExactKeptMoves.f k a b = some true := by
  refine Ev.rounds (r := true) ?_
  have hs := spec_moves a b
  have hi := impl_moves a b
  have hl : (moves a b).1.length ≤ 1000000 := Nat.le_trans (moves_length a b) (by omega)
  have he := PBar.eqS (moves a b).1 hl
  obtain ⟨m, y, hm0, hm1, hm2⟩ := PBar.marked (moves a b).1 hl
  unfold laws_FnExactKeptMoves.f
  simp only [laws_toBar.f, Option.bind_some]
  refine Ev.bind hs (Ev.bind hi (Ev.bind he ?_))
  refine PEv.pos rfl ?_
  refine Ev.step (f := fun k => (laws_markBarS.f k (moves a b).1 1).bind fun q => ((laws_heldBarS.f k q.2 1).bind fun t => (if t < 0 then (some false) else (if t = q.1 then ((impl_KeptMoves.f k a b).bind fun q4 => ((laws_eqBarS.f k q4.1 (moves a b).1).bind fun t2 => (if t2 = true then (laws_FnExactKeptMoves.j1 k q.2 q.1 (q4.2 != (moves a b).2)) else (laws_FnExactKeptMoves.j1 k q.2 q.1 true)))) else (some false))))) (fun k => by simp only [laws_FnExactKeptMoves.j0]; rw [if_neg (by simp)]; rfl) ?_
  refine Ev.bind hm1 (Ev.bind hm2 ?_)
  refine PEv.neg (show ¬ m < 0 by omega) (PEv.pos rfl ?_)
  refine Ev.bind hi (Ev.bind he ?_)
  refine PEv.pos rfl ?_
  refine Ev.step (f := fun k => (laws_heldBarS.f k y 1).bind fun t => (if t < 0 then (some false) else (if t = m then (some true) else (some false)))) (fun k => by simp only [laws_FnExactKeptMoves.j1]; rw [if_neg (by simp)]) ?_
  refine Ev.bind hm2 ?_
  exact PEv.neg (show ¬ m < 0 by omega) (PEv.pos rfl (Ev.now _))

end Go.Proofs.Ytoplnaobaedciaa.OwnFnExactKeptMoves
