/- The call of impl.GoodKept hands back those of KeptMoves' bars whose heap is not greater than 0: the contract of that function, in the form of the print. Conditions: none. -/
import Derived.Test.YtoplnaobaedciaaAx2
import Derived.Test.YtoplnaobaedciaaAx4
import Derived.Test.YtoplnaobaedciaaGDel
namespace Go.Proofs.Ytoplnaobaedciaa.All
open Go.RowKit Go.Proofs.YtoplnaobaedciaaW.PrintWords Go.Proofs.YtoplnaobaedciaaW.PrintLast Go.Proofs.YtoplnaobaedciaaW.PrintMore Go.Shelf Go.Proofs.Ytoplnaobaedciaa.G
set_option linter.unusedVariables false
set_option linter.unusedSimpArgs false

/-- Its heap. -/
def heapOf (x : S31) : Int := Go.bits .xor .i64 (wrap64 (x.f0 - 1)) (wrap64 (x.f1 - 1))
set_option maxHeartbeats 2000000 in
theorem isWon (W : World) (x : S31) : Calls Try.prog 41 (#[.agg #[.int .i64 x.f0, .int .i64 x.f1]] ++ #[]) W fun e w' => e = .returned (.bool (decide (heapOf x > 0))) ∧ Below W.heap.size W w' := by
  have hu31 := Try.underlying31
  have hc := fun w => impl_keptHeap.calls x.f0 x.f1 (heapOf x) w rfl
  generalize heapOf x = b at hc
  show Calls Try.prog 41 #[.agg #[.int .i64 x.f0, .int .i64 x.f1]] W _
  generalize x.f0 = p at hc
  generalize x.f1 = q at hc
  go_enter Try.func41, Try.ntmps41
  go_wp2_with (go_at_call 42; refine (hc _).mono ?_; rintro e w' ⟨rfl, hb'⟩)
  go_ret
  exact ⟨rfl, below_then (below_alloc (Below.refl _ _) _) (by simp) hb'⟩

def impl_GoodKept.f (k : Nat) (a0_0 : Int) (a0_1 : Int) : Option ((List (S31)) × Bool) := (impl_KeptMoves.f k a0_0 a0_1).bind fun r => some (r.1.filter (fun x => !decide (heapOf x > 0)), r.2)
theorem impl_GoodKept.mono : ∀ a0 a1 k, LeO (impl_GoodKept.f k a0 a1) (impl_GoodKept.f (k + 1) a0 a1) := by
  intro a0 a1 k
  unfold impl_GoodKept.f
  exact LeO.bind (impl_KeptMoves.mono a0 a1 k) (fun _ => LeO.refl _)

set_option maxHeartbeats 2000000 in
theorem impl_GoodKept.calls (k : Nat) (a0_0 : Int) (a0_1 : Int) (r1 : List (S31)) (r2 : Bool) (w : World) (h : impl_GoodKept.f k a0_0 a0_1 = some (r1, r2)) :
    Calls Try.prog 24 #[.agg #[.int .i64 a0_0, .int .i64 a0_1]] w fun e w' => ∃ v0_ : Value, e = .returned (.tuple #[v0_, .bool r2]) ∧ Kd.R k31 31 w' w.heap.size (fun _ => True) v0_ r1 ∧ Below w.heap.size w w' := by
  have hu31 := Try.underlying31
  unfold impl_GoodKept.f at h
  obtain ⟨⟨q1, q2⟩, hq, h2⟩ := Option.bind_eq_some_iff.mp h
  simp only [Option.some.injEq, Prod.mk.injEq] at h2
  obtain ⟨rfl, rfl⟩ := h2
  clear h
  have hc := fun w => impl_KeptMoves.calls k a0_0 a0_1 q1 q2 w hq
  clear hq
  have eg : ∀ args w, (callFunc 41 args).run Try.prog w = .ok (.enter 41 args) w := enters_of Try.func41 (by kernel_rfl) rfl
  have hd : ∀ (W : World) (v : Value), Below w.heap.size w W → w.heap.size ≤ W.heap.size → Kd.R k31 31 W w.heap.size (fun _ => True) v q1 →
      Calls Try.prog 40 #[v, .func (.func 41) #[] #[]] W fun e w' => ∃ v' : Value, e = .returned v' ∧ Kd.R k31 31 w' w.heap.size (fun _ => True) v' (q1.filter (fun x => !decide (heapOf x > 0))) ∧ Below w.heap.size w w' :=
    fun W v h1 h2 h3 => delete_any 41 #[] eg (fun x => decide (heapOf x > 0)) w.heap.size w v q1 W h1 h2 h3 (fun W' x _ _ => isWon W' x)
  have HD := Aside0.mk hd
  clear hd
  generalize (q1.filter (fun x => !decide (heapOf x > 0))) = q3 at HD
  go_enter Try.func24, Try.ntmps24
  go_wp2_with (first | (go_at_call 16; refine (hc _).mono ?_; rintro e w1 ⟨v1, rfl, hr1, hb1⟩; have HR1 := Aside0.mk hr1; have HB1 := Aside0.mk hb1; clear hr1 hb1) | (go_at_call 40; refine (HD.out w1 v1 (below_then (below_alloc (Below.refl _ _) _) (by simp) HB1.out) (by have := HB1.out.size; simp at this; omega) (Kd.R_lower HR1.out (by simp))).mono ?_; rintro e w2 ⟨v2, rfl, hr2, hb2⟩; have HR2 := Aside0.mk hr2; have HB2 := Aside0.mk hb2; clear hr2 hb2))
  go_ret2
  exact ⟨_, rfl, HR2.out, HB2.out⟩
end Go.Proofs.Ytoplnaobaedciaa.All
