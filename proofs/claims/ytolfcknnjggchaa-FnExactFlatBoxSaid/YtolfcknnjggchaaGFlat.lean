/- The call of impl.FlatBox hands back the best of those of BoxesOf's boxes whose Tall is not greater than 1: the contract of that function, in the form of the print. Conditions: none. -/
import Derived.Test.YtolfcknnjggchaaPMx2
import Derived.Test.YtolfcknnjggchaaGDel
namespace Go.Proofs.Ytolfcknnjggchaa.PM
open Go.RowKit Go.Proofs.YtolfcknnjggchaaW.PrintWords Go.Proofs.YtolfcknnjggchaaW.PrintLast Go.Proofs.YtolfcknnjggchaaW.PrintMore Go.Shelf Go.Proofs.Ytolfcknnjggchaa.G
set_option linter.unusedVariables false
set_option linter.unusedSimpArgs false

set_option maxHeartbeats 2000000 in
theorem isTall (W : World) (x : S31) : Calls Try.prog 49 (#[.agg #[.int .i64 x.f0, .int .i64 x.f1, .int .i64 x.f2]] ++ #[]) W fun e w' => e = .returned (.bool (decide (x.f2 > 1))) ∧ Below W.heap.size W w' := by
  have hu31 := Try.underlying31
  show Calls Try.prog 49 #[.agg #[.int .i64 x.f0, .int .i64 x.f1, .int .i64 x.f2]] W _
  generalize x.f0 = p
  generalize x.f1 = q
  generalize x.f2 = s
  go_enter Try.func49, Try.ntmps49
  go_wp2
  go_ret
  exact ⟨rfl, below_alloc (Below.refl _ _) _⟩

def impl_FlatBox.f (k : Nat) (a0 : Int) : Option (Int × Int × Int × Bool) := (impl_BoxesOf.f k a0).bind fun r => impl_best.f k (r.1.filter (fun x => !decide (x.f2 > 1)))
theorem impl_FlatBox.mono : ∀ a0 k, LeO (impl_FlatBox.f k a0) (impl_FlatBox.f (k + 1) a0) := by
  intro a0 k
  unfold impl_FlatBox.f
  exact LeO.bind (impl_BoxesOf.mono a0 k) (fun _ => impl_best.mono _ k)

set_option maxHeartbeats 2000000 in
theorem impl_FlatBox.calls (k : Nat) (a0 : Int) (r1 : Int) (r2 : Int) (r3 : Int) (r4 : Bool) (w : World) (h : impl_FlatBox.f k a0 = some (r1, r2, r3, r4)) :
    Calls Try.prog 27 #[.int .i64 a0] w fun e w' => e = .returned (.tuple #[.agg #[.int .i64 r1, .int .i64 r2, .int .i64 r3], .bool r4]) ∧ Below w.heap.size w w' := by
  have hu31 := Try.underlying31
  unfold impl_FlatBox.f at h
  obtain ⟨⟨q1, q2⟩, hq, h2⟩ := Option.bind_eq_some_iff.mp h
  clear h
  have hc := fun w => impl_BoxesOf.calls k a0 q1 q2 w hq
  clear hq
  have eg : ∀ args w, (callFunc 49 args).run Try.prog w = .ok (.enter 49 args) w := enters_of Try.func49 (by kernel_rfl) rfl
  obtain ⟨wA, hwA⟩ : ∃ wA, w.alloc (.cells #[.int .i64 0, .int .i64 0, .int .i64 0] 31) = wA := ⟨_, rfl⟩
  have hd : ∀ (W : World) (v : Value), Below wA.heap.size wA W → wA.heap.size ≤ W.heap.size → Kd.R k31 31 W wA.heap.size (fun _ => True) v q1 →
      Calls Try.prog 48 #[v, .func (.func 49) #[] #[]] W fun e w' => ∃ v' : Value, e = .returned v' ∧ Kd.R k31 31 w' wA.heap.size (fun _ => True) v' (q1.filter (fun x => !decide (x.f2 > 1))) ∧ Below wA.heap.size wA w' :=
    fun W v h1 h2 h3 => delete_any 49 #[] eg (fun x => decide (x.f2 > 1)) wA.heap.size wA v q1 W h1 h2 h3 (fun W' x _ _ => isTall W' x)
  have HWA := Aside0.mk hwA
  have hcA := hc wA
  rw [← hwA] at hcA
  clear hc hwA
  have HD := Aside0.mk hd
  clear hd
  have HBS := Aside0.mk (fun A0 c0 W (hr : Kd.C k31 W A0 (q1.filter (fun x => !decide (x.f2 > 1))).length (q1.filter (fun x => !decide (x.f2 > 1)))) hc => impl_best.calls k A0 c0 _ r1 r2 r3 r4 W hr hc h2)
  simp only at h2
  clear h2
  generalize (q1.filter (fun x => !decide (x.f2 > 1))) = q3 at HD HBS
  go_enter Try.func27, Try.ntmps27
  go_wp2_with (first
    | (go_at_call 25; refine hcA.mono ?_; rintro e w1 ⟨v1, rfl, hr1, hb1⟩; rw [HWA.out] at hr1 hb1; have HR1 := Aside0.mk hr1; have HB1 := Aside0.mk hb1; clear hr1 hb1)
    | (go_at_call 48; refine (HD.out w1 v1 HB1.out HB1.out.size HR1.out).mono ?_; rintro e w2 ⟨v2, rfl, hr2, hb2⟩; obtain ⟨A2, c2, rfl, hc2, hC2⟩ := Kd.R_reads hr2; have HB2 := Aside0.mk hb2; have HC2 := Aside0.mk hC2; clear hr2 hb2 hC2)
    | (go_at_call 46; refine (HBS.out A2 c2 w2 HC2.out hc2).mono ?_; rintro e w3 ⟨rfl, hb3⟩; have BK3 := Aside0.mk (blk_below (blk_below (show wA.heap[w.heap.size]? = some (.cells #[.int .i64 0, .int .i64 0, .int .i64 0] 31 (0, 0)) from by rw [← HWA.out]; exact blk_new w _) HB2.out) hb3); have z0 : w3.cell? ⟨w.heap.size, 0, none⟩ = some (.int .i64 0) := (blk_cell BK3.out 0).trans rfl; have z1 : w3.cell? ⟨w.heap.size, 1, none⟩ = some (.int .i64 0) := (blk_cell BK3.out 1).trans rfl; have z2 : w3.cell? ⟨w.heap.size, 2, none⟩ = some (.int .i64 0) := (blk_cell BK3.out 2).trans rfl; have y0 := blk_frozen BK3.out 0; have y1 := blk_frozen BK3.out 1; have y2 := blk_frozen BK3.out 2; have HB3 := Aside0.mk hb3; clear hb3))
  refine bodyPost_ret (results_ct rfl _ _ w.heap.size 31 #[.int .i64 r1, .int .i64 r2, .int .i64 r3] (0, 0) _ rfl (by refine blk_put (cs := #[.int .i64 r1, .int .i64 r2, .int .i64 0]) ?_ 2 _ rfl; refine blk_put (cs := #[.int .i64 r1, .int .i64 0, .int .i64 0]) ?_ 1 _ rfl; refine blk_put (cs := #[.int .i64 0, .int .i64 0, .int .i64 0]) ?_ 0 _ rfl; exact BK3.out) Try.underlying31 rfl (by kernel_rfl)) rfl ?_
  have hA : Below w.heap.size w wA := by rw [← HWA.out]; exact below_alloc (Below.refl _ _) _
  have h3 : Below w.heap.size w w3 := below_then (below_then hA hA.size HB2.out) (Nat.le_trans hA.size HB2.out.size) HB3.out
  exact ⟨rfl, below_set (below_set (below_set h3 (Nat.le_refl _)) (Nat.le_refl _)) (Nat.le_refl _)⟩
end Go.Proofs.Ytolfcknnjggchaa.PM
