/- Texts of this claim joined, in the order in which they build: GDraw, Ax8, Ax13, PDraw. -/
import Derived.Laws.Bits64
import Derived.Test.YtkoplphcdkmilaaK19
section
namespace Go.Proofs.Ytkoplphcdkmilaa.All
open Go.RowKit Go.Proofs.YtkoplphcdkmilaaW.PrintWords Go.Proofs.YtkoplphcdkmilaaW.PrintLast Go.Proofs.YtkoplphcdkmilaaW.PrintMore GSteps
set_option linter.unusedVariables false
set_option linter.unusedSimpArgs false

def spec_DrawIsBar.f (l0 : List Int) : Option (Int × Int) := (spec_l1Cur_bar.f l0 0 0).bind fun t => some (t.1, t.2.1)

set_option maxHeartbeats 8000000 in
set_option maxRecDepth 100000 in
theorem spec_DrawIsBar.calls (A0 : Option Addr) (c0 : Nat) (l0 : List Int) (r1 : Int) (r2 : Int) (w : World) (hr0 : Kd.C (Kd.int .u8) w A0 l0.length l0) (hc0 : l0.length ≤ c0) (h : spec_DrawIsBar.f l0 = some (r1, r2)) :
    Calls Try.prog 26 #[.slice A0 l0.length c0] w fun e w' => e = .returned (.agg #[.int .i64 r1, .int .i64 r2]) ∧ Below w.heap.size w w' := by
  have hu25 := Try.underlying25
  have hu72 := Try.underlying72
  have HR0 := Aside0.mk hr0
  clear hr0
  have HB := Aside0.mk (Below.refl w.heap.size w)
  unfold spec_DrawIsBar.f at h
  obtain ⟨⟨t1, t2, t3, t4⟩, A20, H⟩ := Option.bind_eq_some_iff.mp h
  simp only [Option.some.injEq, Prod.mk.injEq] at H
  obtain ⟨rfl, rfl⟩ := H
  have A2 := Aside0.mk A20
  clear A20 h
  go_enter Try.func26, Try.ntmps26
  go_wp2_with (first | ((with_reducible refine gate_dst (N := 2) rfl ?_); refine box_event ?hg (N := 2) ?hd (cs := #[.int .i64 0, .int .i64 0]) (t := 25) ?hr ?_; (case hd => rfl); (case hg => rfl); (case hr => first | (go_simp; done) | (go_simp; rfl)); intro gb hg w3 hbox hb; have n0_ := Aside0.mk (below_step (by repeat (first | (with_reducible first | exact HB.out | apply below_alloc | apply pw_below_drewN | apply below_drew1) | exact HB.out)) hb); have BK := Aside0.mk hbox; have GW := Aside0.mk ((by rw [hg]; exact (below_size (by repeat (first | (with_reducible first | exact HB.out | apply below_alloc | apply pw_below_drewN | apply below_drew1) | exact HB.out))) : w.heap.size ≤ gb)); clear HB; have HB := n0_; clear n0_; clear hb hbox hg) | (go_at_call 52; refine (spec_l1Cur_bar.calls _ l0 0 0 t1 t2 t3 t4 w _ (IsS72.new w w3 A0 c0 l0 0 0 HB.out HR0.out) (below_alloc HB.out _) A2.out).mono ?_; rintro e w5 ⟨rfl, hi, hb, hk⟩; have BK2 := Aside0.mk (KeepBut.blk hk (g' := gb) (o := .cells #[.int .i64 0, .int .i64 0] 25 (0, 0)) (blk_alloc BK.out _) (Nat.ne_of_lt (blk_lt BK.out)) (by simp)); clear BK HB; have BK := BK2; have HB := Aside0.mk hb; clear BK2 hb hk hi; have hcz5_0 : w5.cell? ⟨gb, 0, none⟩ = some (.int .i64 0) := (blk_cell BK.out 0).trans rfl; have hcz5_1 : w5.cell? ⟨gb, 1, none⟩ = some (.int .i64 0) := (blk_cell BK.out 1).trans rfl; have hfz5_0 := blk_frozen BK.out 0; have hfz5_1 := blk_frozen BK.out 1))
  refine bodyPost_ret (results_cell_row rfl _ _ gb 25 #[.int .i64 t1, .int .i64 t2] (0, 0) _ rfl (by (with_reducible repeat (first | refine blk_drewN ?_ _ | refine blk_drew ?_ | refine blk_alloc ?_ _)); refine blk_put (cs := #[.int .i64 t1, .int .i64 0]) ?_ 1 _ rfl; (with_reducible repeat (first | refine blk_drewN ?_ _ | refine blk_drew ?_ | refine blk_alloc ?_ _)); refine blk_put (cs := #[.int .i64 0, .int .i64 0]) ?_ 0 _ rfl; (with_reducible repeat (first | refine blk_drewN ?_ _ | refine blk_drew ?_ | refine blk_alloc ?_ _)); exact BK.out) Try.underlying25 rfl (by kernel_rfl)) rfl ?_
  exact ⟨rfl, by repeat (first | (with_reducible first | exact HB.out | apply below_alloc | apply pw_below_drewN | apply below_drew1 | refine below_set ?_ GW.out) | exact HB.out)⟩

def spec_DrawLeastToEat.f (l0 : List Int) : Option (Int × Int × Int) :=
  (spec_l1Cur_bar.f l0 0 0).bind fun t => (spec_l1Least.f t.1 12).bind fun a => (spec_l1Least.f t.2.1 12).bind fun b => (spec_l1Most.f 1 (wrap64 (a * b))).bind fun m => (spec_l1Least.f 31 m).bind fun n =>
  (spec_l1Cur_pick.f l0 t.2.2.1 t.2.2.2 (wrap64 (n + 2))).bind fun p => (spec_l1Cur_pick.f l0 p.2.1 p.2.2 9).bind fun q => some (t.1, t.2.1, wrap64 (p.1 - wrap64 (Int.tdiv q.1 8)))

set_option maxHeartbeats 8000000 in
set_option maxRecDepth 100000 in
theorem spec_DrawLeastToEat.calls (A0 : Option Addr) (c0 : Nat) (l0 : List Int) (r1 : Int) (r2 : Int) (r3 : Int) (w : World) (hr0 : Kd.C (Kd.int .u8) w A0 l0.length l0) (hc0 : l0.length ≤ c0) (h : spec_DrawLeastToEat.f l0 = some (r1, r2, r3)) :
    Calls Try.prog 38 #[.slice A0 l0.length c0] w fun e w' => e = .returned (.tuple #[.agg #[.int .i64 r1, .int .i64 r2], .int .i64 r3]) ∧ Below w.heap.size w w' := by
  have hu25 := Try.underlying25
  have hu72 := Try.underlying72
  have HR0 := Aside0.mk hr0
  clear hr0
  have HB := Aside0.mk (Below.refl w.heap.size w)
  unfold spec_DrawLeastToEat.f at h
  obtain ⟨⟨t1, t2, t3, t4⟩, A20, h⟩ := Option.bind_eq_some_iff.mp h
  have A2 := Aside0.mk A20
  obtain ⟨a, A30, h⟩ := Option.bind_eq_some_iff.mp h
  have A3 := Aside0.mk A30
  obtain ⟨b, A40, h⟩ := Option.bind_eq_some_iff.mp h
  have A4 := Aside0.mk A40
  obtain ⟨m, A50, h⟩ := Option.bind_eq_some_iff.mp h
  have A5 := Aside0.mk A50
  obtain ⟨n, A60, h⟩ := Option.bind_eq_some_iff.mp h
  have A6 := Aside0.mk A60
  obtain ⟨⟨p, p1, p2⟩, A70, h⟩ := Option.bind_eq_some_iff.mp h
  have A7 := Aside0.mk A70
  obtain ⟨⟨q, q1, q2⟩, A80, H⟩ := Option.bind_eq_some_iff.mp h
  have A8 := Aside0.mk A80
  clear h A20 A30 A40 A50 A60 A70 A80
  simp only [Option.some.injEq, Prod.mk.injEq] at H
  obtain ⟨rfl, rfl, rfl⟩ := H
  go_enter Try.func38, Try.ntmps38
  go_wp2_with (first | ((with_reducible refine gate_dst (N := 2) rfl ?_); refine box_event ?hg (N := 2) ?hd (cs := #[.int .i64 0, .int .i64 0]) (t := 25) ?hr ?_; (case hd => rfl); (case hg => rfl); (case hr => first | (go_simp; done) | (go_simp; rfl)); intro gb hg w3 hbox hb; have n0_ := Aside0.mk (below_step HB.out hb); have BK := Aside0.mk hbox; have GW := Aside0.mk ((by rw [hg]; exact (below_size HB.out)) : w.heap.size ≤ gb); clear HB; have HB := n0_; clear n0_; clear hb hbox hg) | (go_at_call 52; refine (spec_l1Cur_bar.calls _ l0 0 0 t1 t2 t3 t4 w _ (IsS72.new w w3 A0 c0 l0 0 0 HB.out HR0.out) (below_alloc HB.out _) A2.out).mono ?_; rintro e w5 ⟨rfl, hi, hb, hk⟩; have BK2 := Aside0.mk (KeepBut.blk hk (g' := gb) (o := .cells #[.int .i64 0, .int .i64 0] 25 (0, 0)) (blk_alloc BK.out _) (Nat.ne_of_lt (blk_lt BK.out)) (by simp)); have NE := Aside0.mk (Nat.ne_of_lt (blk_lt BK.out)); clear BK HB; have BK := BK2; have HB := Aside0.mk hb; have HI := Aside0.mk hi; clear BK2 hb hk hi) | ((with_reducible refine gate_dst (N := 5) rfl ?_); refine box_event ?hg (N := 5) ?hd (cs := #[.int .i64 0, .int .i64 0]) (t := 25) ?hr ?_; (case hd => rfl); (case hg => rfl); (case hr => first | (go_simp; done) | (go_simp; rfl)); intro g5 hg w6 hbox hb; have n0_ := Aside0.mk (below_step HB.out hb); have n1_ := Aside0.mk (blk_below BK.out hb); have BK5 := Aside0.mk hbox; have GW5 := Aside0.mk ((by rw [hg]; exact (below_size HB.out)) : w.heap.size ≤ g5); have NE5 := Aside0.mk ((by rw [hg]; exact Nat.ne_of_lt (blk_lt BK.out)) : gb ≠ g5); have n2_ := Aside0.mk (IsS72.below HI.out hb); have NEc := Aside0.mk ((by rw [hg]; exact Nat.ne_of_lt (IsS72.lt HI.out)) : w3.heap.size ≠ g5); clear HB BK HI; have HB := n0_; have BK := n1_; have HI := n2_; clear n0_ n1_ n2_; clear hb hbox hg; have hcz5_0 : w6.cell? ⟨g5, 0, none⟩ = some (.int .i64 0) := (blk_cell BK5.out 0).trans rfl; have hcz5_1 : w6.cell? ⟨g5, 1, none⟩ = some (.int .i64 0) := (blk_cell BK5.out 1).trans rfl; have hfz5_0 := blk_frozen BK5.out 0; have hfz5_1 := blk_frozen BK5.out 1))
  -- REGION
  generalize hw7 : World.setCell (World.setCell w6 _ _) _ _ = w7
  have n0_ : w7.heap[g5]? = some (.cells #[.int .i64 t1, .int .i64 t2] 25 (0, 0)) := by rw [← hw7]; exact blk_put (cs := #[.int .i64 t1, .int .i64 0]) (blk_put (cs := #[.int .i64 0, .int .i64 0]) BK5.out 0 _ rfl) 1 _ rfl
  have n1_ : w7.heap[gb]? = some (.cells #[.int .i64 0, .int .i64 0] 25 (0, 0)) := by rw [← hw7]; exact blk_far (blk_far BK.out NE5.out _) NE5.out _
  have n2_ : IsS72 w w7 w3.heap.size l0 t3 t4 := by rw [← hw7]; exact IsS72.far (IsS72.far HI.out NEc.out _) NEc.out _
  have n3_ : Below w.heap.size w w7 := by rw [← hw7]; exact below_set (below_set HB.out GW5.out) GW5.out
  clear BK5 BK HI HB hcz5_0 hcz5_1 hfz5_0 hfz5_1 hw7 w6
  have BK := Aside0.mk (blk_drew n1_); have HI := Aside0.mk (IsS72.drew n2_); have HB := Aside0.mk (below_drew1 n3_); have s0 := blk_drew n0_
  clear n0_ n1_ n2_ n3_
  refine start_ (n := 19) (S := fun w' => w'.heap[g5]? = some (.cells #[.int .i64 t1, .int .i64 t2] 25 (0, 0))) (ds := [17]) _ (by kernel_rfl) rfl rfl s0 (fun hHeld => ?_)
  clear s0
  refine pureS_ 1 (N := some 12) (v := ?_) (a' := ?_) rfl rfl (by kernel_rfl) (fun _ _ _ h => h) (Or.inl ⟨by rfl, ?_⟩) ?_ ?_
  rotate_left
  · intro w'; go_simp; with_reducible rfl
  rotate_left
  · simp only [Act.put, List.setIfInBounds_toArray, List.set_cons_zero, List.set_cons_succ, i64_w, i32_w]; rfl
  refine pureS_ 2 (N := some 13) (v := ?_) (a' := ?_) rfl rfl (by kernel_rfl) (fun _ _ _ h => h) (Or.inl ⟨by rfl, ?_⟩) ?_ ?_
  rotate_left
  · intro w'; go_simp; with_reducible rfl
  rotate_left
  · simp only [Act.put, List.setIfInBounds_toArray, List.set_cons_zero, List.set_cons_succ, i64_w, i32_w]; rfl
  refine pureS_ 5 (N := some 16) (v := ?_) (a' := ?_) rfl rfl (by kernel_rfl) (fun _ _ _ h => h) (Or.inl ⟨by rfl, ?_⟩) ?_ ?_
  rotate_left
  · intro w'; go_simp; with_reducible rfl
  rotate_left
  · simp only [Act.put, List.setIfInBounds_toArray, List.set_cons_zero, List.set_cons_succ, i64_w, i32_w]; rfl
  refine pureS_ 13 (N := some 24) (v := ?_) (a' := ?_) rfl rfl (by kernel_rfl) (fun _ _ _ h => h) (Or.inl ⟨by rfl, ?_⟩) ?_ ?_
  rotate_left
  · intro w'; go_simp; with_reducible rfl
  rotate_left
  · simp only [Act.put, List.setIfInBounds_toArray, List.set_cons_zero, List.set_cons_succ, i64_w, i32_w]; rfl
  refine takeS_ 0 (N := some 11) (v := ?_) (a' := ?_) rfl rfl (by kernel_rfl) (fun _ _ _ h => h) (Or.inl ⟨by rfl, ?_⟩) hHeld ?_ ?_
  rotate_left
  · rintro w' hs; have s0 : w'.cell? ⟨g5, 0, none⟩ = some (.int .i64 t1) := (blk_cell hs 0).trans rfl; have s1 : w'.cell? ⟨g5, 1, none⟩ = some (.int .i64 t2) := (blk_cell hs 1).trans rfl; go_simp; with_reducible rfl
  rotate_left
  · simp only [Act.put, List.setIfInBounds_toArray, List.set_cons_zero, List.set_cons_succ, i64_w, i32_w]; rfl
  refine takeS_ 3 (N := some 14) (v := ?_) (a' := ?_) rfl rfl (by kernel_rfl) (fun _ _ _ h => h) (Or.inl ⟨by rfl, ?_⟩) hHeld ?_ ?_
  rotate_left
  · rintro w' hs; have s0 : w'.cell? ⟨g5, 0, none⟩ = some (.int .i64 t1) := (blk_cell hs 0).trans rfl; have s1 : w'.cell? ⟨g5, 1, none⟩ = some (.int .i64 t2) := (blk_cell hs 1).trans rfl; go_simp; with_reducible rfl
  rotate_left
  · simp only [Act.put, List.setIfInBounds_toArray, List.set_cons_zero, List.set_cons_succ, i64_w, i32_w]; rfl
  refine takeS_ 6 (N := some 17) (v := ?_) (a' := ?_) rfl rfl (by kernel_rfl) (fun _ _ _ h => h) (Or.inl ⟨by rfl, ?_⟩) hHeld ?_ ?_
  rotate_left
  · rintro w' hs; have s0 : w'.cell? ⟨g5, 0, none⟩ = some (.int .i64 t1) := (blk_cell hs 0).trans rfl; have s1 : w'.cell? ⟨g5, 1, none⟩ = some (.int .i64 t2) := (blk_cell hs 1).trans rfl; go_simp; with_reducible rfl
  rotate_left
  · simp only [Act.put, List.setIfInBounds_toArray, List.set_cons_zero, List.set_cons_succ, i64_w, i32_w]; rfl
  refine oneS_ 4 (N := some 15) rfl rfl (by kernel_rfl) (by decide) (fun K hK => ?_)
  refine goes_ Try.func55 (by kernel_rfl) rfl #[.int .i64 t1, .int .i64 12] (by rfl) rfl rfl (by (try simp only [List.map_toArray, List.map_cons, List.map_nil]); first | done | rfl) ?_
  refine (spec_l1Least.calls t1 12 a _ A3.out).mono ?_
  rintro e w' ⟨rfl, ⟨nd, rfl⟩⟩
  refine ⟨_, rfl, ?_⟩
  have n0_ := Aside0.mk (blk_drewN BK.out nd); have n1_ := Aside0.mk (IsS72.drewN HI.out nd); have n2_ := Aside0.mk (pw_below_drewN HB.out nd); have n3_ := blk_drewN hHeld nd; clear BK HI HB hHeld; have BK := n0_; have HI := n1_; have HB := n2_; have hHeld := n3_; clear n0_ n1_ n2_ n3_
  refine hK.out _ _ hHeld (fun hHeld => ?_)
  clear hK K
  refine norm_ (a' := ?_) ?_ ?_
  rotate_left
  · show Act.put _ (some 15) _ = _; simp only [Act.put, List.setIfInBounds_toArray, List.set_cons_zero, List.set_cons_succ, i64_w, i32_w]; rfl
  refine oneS_ 7 (N := some 18) rfl rfl (by kernel_rfl) (by decide) (fun K hK => ?_)
  refine goes_ Try.func55 (by kernel_rfl) rfl #[.int .i64 t2, .int .i64 12] (by rfl) rfl rfl (by (try simp only [List.map_toArray, List.map_cons, List.map_nil]); first | done | rfl) ?_
  refine (spec_l1Least.calls t2 12 b _ A4.out).mono ?_
  rintro e w' ⟨rfl, ⟨nd, rfl⟩⟩
  refine ⟨_, rfl, ?_⟩
  have n0_ := Aside0.mk (blk_drewN BK.out nd); have n1_ := Aside0.mk (IsS72.drewN HI.out nd); have n2_ := Aside0.mk (pw_below_drewN HB.out nd); have n3_ := blk_drewN hHeld nd; clear BK HI HB hHeld; have BK := n0_; have HI := n1_; have HB := n2_; have hHeld := n3_; clear n0_ n1_ n2_ n3_
  refine hK.out _ _ hHeld (fun hHeld => ?_)
  clear hK K
  refine norm_ (a' := ?_) ?_ ?_
  rotate_left
  · show Act.put _ (some 18) _ = _; simp only [Act.put, List.setIfInBounds_toArray, List.set_cons_zero, List.set_cons_succ, i64_w, i32_w]; rfl
  refine pureS_ 8 (N := some 19) (v := ?_) (a' := ?_) rfl rfl (by kernel_rfl) (fun _ _ _ h => h) (Or.inl ⟨by rfl, ?_⟩) ?_ ?_
  rotate_left
  · intro w'; go_simp; with_reducible rfl
  rotate_left
  · simp only [Act.put, List.setIfInBounds_toArray, List.set_cons_zero, List.set_cons_succ, i64_w, i32_w]; rfl
  refine oneS_ 9 (N := some 20) rfl rfl (by kernel_rfl) (by decide) (fun K hK => ?_)
  refine goes_ Try.func59 (by kernel_rfl) rfl #[.int .i64 1, .int .i64 (wrap64 (a * b))] (by rfl) rfl rfl (by (try simp only [List.map_toArray, List.map_cons, List.map_nil]); first | done | rfl) ?_
  refine (spec_l1Most.calls 1 (wrap64 (a * b)) m _ A5.out).mono ?_
  rintro e w' ⟨rfl, ⟨nd, rfl⟩⟩
  refine ⟨_, rfl, ?_⟩
  have n0_ := Aside0.mk (blk_drewN BK.out nd); have n1_ := Aside0.mk (IsS72.drewN HI.out nd); have n2_ := Aside0.mk (pw_below_drewN HB.out nd); have n3_ := blk_drewN hHeld nd; clear BK HI HB hHeld; have BK := n0_; have HI := n1_; have HB := n2_; have hHeld := n3_; clear n0_ n1_ n2_ n3_
  refine hK.out _ _ hHeld (fun hHeld => ?_)
  clear hK K
  refine norm_ (a' := ?_) ?_ ?_
  rotate_left
  · show Act.put _ (some 20) _ = _; simp only [Act.put, List.setIfInBounds_toArray, List.set_cons_zero, List.set_cons_succ, i64_w, i32_w]; rfl
  refine oneS_ 10 (N := some 21) rfl rfl (by kernel_rfl) (by decide) (fun K hK => ?_)
  refine goes_ Try.func55 (by kernel_rfl) rfl #[.int .i64 31, .int .i64 m] (by rfl) rfl rfl (by (try simp only [List.map_toArray, List.map_cons, List.map_nil]); first | done | rfl) ?_
  refine (spec_l1Least.calls 31 m n _ A6.out).mono ?_
  rintro e w' ⟨rfl, ⟨nd, rfl⟩⟩
  refine ⟨_, rfl, ?_⟩
  have n0_ := Aside0.mk (blk_drewN BK.out nd); have n1_ := Aside0.mk (IsS72.drewN HI.out nd); have n2_ := Aside0.mk (pw_below_drewN HB.out nd); have n3_ := blk_drewN hHeld nd; clear BK HI HB hHeld; have BK := n0_; have HI := n1_; have HB := n2_; have hHeld := n3_; clear n0_ n1_ n2_ n3_
  refine hK.out _ _ hHeld (fun hHeld => ?_)
  clear hK K
  refine norm_ (a' := ?_) ?_ ?_
  rotate_left
  · show Act.put _ (some 21) _ = _; simp only [Act.put, List.setIfInBounds_toArray, List.set_cons_zero, List.set_cons_succ, i64_w, i32_w]; rfl
  refine pureS_ 11 (N := some 22) (v := ?_) (a' := ?_) rfl rfl (by kernel_rfl) (fun _ _ _ h => h) (Or.inl ⟨by rfl, ?_⟩) ?_ ?_
  rotate_left
  · intro w'; go_simp; with_reducible rfl
  rotate_left
  · simp only [Act.put, List.setIfInBounds_toArray, List.set_cons_zero, List.set_cons_succ, i64_w, i32_w]; rfl
  refine oneS_ 12 (N := some 23) rfl rfl (by kernel_rfl) (by decide) (fun K hK => ?_)
  refine goes_ Try.func58 (by kernel_rfl) rfl #[.pointer (some ⟨w3.heap.size, 0, none⟩), .int .i64 (wrap64 (n + 2))] (by rfl) rfl rfl (by (try simp only [List.map_toArray, List.map_cons, List.map_nil]); first | done | rfl) ?_
  refine (spec_l1Cur_pick.calls _ l0 t3 t4 (wrap64 (n + 2)) p p1 p2 w _ HI.out HB.out A7.out).mono ?_
  rintro e w' ⟨rfl, hi, hb, hk⟩
  refine ⟨_, rfl, ?_⟩
  have n0_ := Aside0.mk (KeepBut.blk hk BK.out NE.out (by simp)); have n1_ := Aside0.mk hi; have n2_ := Aside0.mk hb; have n3_ := KeepBut.blk hk hHeld (Ne.symm NEc.out) (by simp); clear BK HI HB hHeld; have BK := n0_; have HI := n1_; have HB := n2_; have hHeld := n3_; clear n0_ n1_ n2_ n3_ hi hb hk
  refine hK.out _ _ hHeld (fun hHeld => ?_)
  clear hK K
  refine norm_ (a' := ?_) ?_ ?_
  rotate_left
  · show Act.put _ (some 23) _ = _; simp only [Act.put, List.setIfInBounds_toArray, List.set_cons_zero, List.set_cons_succ, i64_w, i32_w]; rfl
  refine oneS_ 14 (N := some 25) rfl rfl (by kernel_rfl) (by decide) (fun K hK => ?_)
  refine goes_ Try.func58 (by kernel_rfl) rfl #[.pointer (some ⟨w3.heap.size, 0, none⟩), .int .i64 9] (by rfl) rfl rfl (by (try simp only [List.map_toArray, List.map_cons, List.map_nil]); first | done | rfl) ?_
  refine (spec_l1Cur_pick.calls _ l0 p1 p2 9 q q1 q2 w _ HI.out HB.out A8.out).mono ?_
  rintro e w' ⟨rfl, hi, hb, hk⟩
  refine ⟨_, rfl, ?_⟩
  have n0_ := Aside0.mk (KeepBut.blk hk BK.out NE.out (by simp)); have n1_ := Aside0.mk hi; have n2_ := Aside0.mk hb; have n3_ := KeepBut.blk hk hHeld (Ne.symm NEc.out) (by simp); clear BK HI HB hHeld; have BK := n0_; have HI := n1_; have HB := n2_; have hHeld := n3_; clear n0_ n1_ n2_ n3_ hi hb hk
  refine hK.out _ _ hHeld (fun hHeld => ?_)
  clear hK K
  refine norm_ (a' := ?_) ?_ ?_
  rotate_left
  · show Act.put _ (some 25) _ = _; simp only [Act.put, List.setIfInBounds_toArray, List.set_cons_zero, List.set_cons_succ, i64_w, i32_w]; rfl
  refine pureS_ 15 (N := some 26) (v := ?_) (a' := ?_) rfl rfl (by kernel_rfl) (fun _ _ _ h => h) (Or.inl ⟨by rfl, ?_⟩) ?_ ?_
  rotate_left
  · intro w'; go_simp; with_reducible rfl
  rotate_left
  · simp only [Act.put, List.setIfInBounds_toArray, List.set_cons_zero, List.set_cons_succ, i64_w, i32_w]; rfl
  refine pureS_ 16 (N := some 27) (v := ?_) (a' := ?_) rfl rfl (by kernel_rfl) (fun _ _ _ h => h) (Or.inl ⟨by rfl, ?_⟩) ?_ ?_
  rotate_left
  · intro w'; go_simp; with_reducible rfl
  rotate_left
  · simp only [Act.put, List.setIfInBounds_toArray, List.set_cons_zero, List.set_cons_succ, i64_w, i32_w]; rfl
  have hcz5_0 : World.cell? _ ⟨gb, 0, none⟩ = some (.int .i64 0) := (blk_cell BK.out 0).trans rfl; have hcz5_1 : World.cell? _ ⟨gb, 1, none⟩ = some (.int .i64 0) := (blk_cell BK.out 1).trans rfl; have hfz5_0 := blk_frozen BK.out 0; have hfz5_1 := blk_frozen BK.out 1
  refine lastS_ 17 (N := none) rfl rfl (by kernel_rfl) (by decide) (fun K hK => ?_)
  refine skip_ (w1 := ?_) (by rfl) rfl ?_ ?_
  rotate_left
  · go_simp; rfl
  refine hK.out _ _ ?_
  clear hK K
  refine pureS_ 18 (N := some 3) (v := ?_) (a' := ?_) rfl rfl (by kernel_rfl) (fun _ _ _ h => h) (Or.inl ⟨by rfl, ?_⟩) ?_ ?_
  rotate_left
  · intro w'; go_simp; with_reducible rfl
  rotate_left
  · simp only [Act.put, List.setIfInBounds_toArray, List.set_cons_zero, List.set_cons_succ, i64_w, i32_w]; rfl
  refine done_ (by kernel_rfl) ?_
  go_wp2
  refine bodyPost_ret (results_ct rfl _ _ gb 25 #[.int .i64 t1, .int .i64 t2] (0, 0) _ rfl (by (with_reducible repeat (first | refine blk_drewN ?_ _ | refine blk_drew ?_ | refine blk_alloc ?_ _)); refine blk_put (cs := #[.int .i64 t1, .int .i64 0]) ?_ 1 _ rfl; (with_reducible repeat (first | refine blk_drewN ?_ _ | refine blk_drew ?_ | refine blk_alloc ?_ _)); refine blk_put (cs := #[.int .i64 0, .int .i64 0]) ?_ 0 _ rfl; (with_reducible repeat (first | refine blk_drewN ?_ _ | refine blk_drew ?_ | refine blk_alloc ?_ _)); exact BK.out) Try.underlying25 rfl (by kernel_rfl)) rfl ?_
  exact ⟨rfl, by repeat (first | (with_reducible first | exact HB.out | apply below_alloc | apply pw_below_drewN | apply below_drew1 | refine below_set ?_ GW.out) | exact HB.out)⟩

def spec_DrawLeastByLines.f (k : Nat) (l0 : List Int) : Option (List Int × List Int) :=
  (spec_l1Cur_lines.f k l0 0 0).bind fun t => (spec_l1Cur_lines.f k l0 t.2.1 t.2.2).bind fun u => some (t.1, u.1)
theorem spec_DrawLeastByLines.mono : ∀ a0 k, LeO (spec_DrawLeastByLines.f k a0) (spec_DrawLeastByLines.f (k + 1) a0) := by
  intro a0 k r h
  unfold spec_DrawLeastByLines.f at h ⊢
  obtain ⟨t, h1, h⟩ := Option.bind_eq_some_iff.mp h
  obtain ⟨u, h2, h⟩ := Option.bind_eq_some_iff.mp h
  rw [spec_l1Cur_lines.mono _ _ _ _ _ h1, Option.bind_some, spec_l1Cur_lines.mono _ _ _ _ _ h2, Option.bind_some]
  exact h

set_option maxHeartbeats 8000000 in
set_option maxRecDepth 100000 in
theorem spec_DrawLeastByLines.calls (k : Nat) (A0 : Option Addr) (c0 : Nat) (l0 : List Int) (r1 : List Int) (r2 : List Int) (w : World) (hr0 : Kd.C (Kd.int .u8) w A0 l0.length l0) (hc0 : l0.length ≤ c0) (h : spec_DrawLeastByLines.f k l0 = some (r1, r2)) :
    Calls Try.prog 20 #[.slice A0 l0.length c0] w fun e w' => ∃ v0_ v1_ : Value, e = .returned (.tuple #[v0_, v1_]) ∧ Kd.R (Kd.int .i64) 3 w' w.heap.size (fun k_ => some k_ ≠ (v1_ : Value).ownBlock) v0_ r1 ∧ Kd.R (Kd.int .i64) 3 w' w.heap.size (fun k_ => some k_ ≠ (v0_ : Value).ownBlock) v1_ r2 ∧ Below w.heap.size w w' := by
  have hu72 := Try.underlying72
  have HR0 := Aside0.mk hr0
  clear hr0
  have HB := Aside0.mk (Below.refl w.heap.size w)
  unfold spec_DrawLeastByLines.f at h
  obtain ⟨⟨t1, t2, t3⟩, A20, h2⟩ := Option.bind_eq_some_iff.mp h
  obtain ⟨⟨u1, u2, u3⟩, A30, H⟩ := Option.bind_eq_some_iff.mp h2
  simp only [Option.some.injEq, Prod.mk.injEq] at H
  obtain ⟨rfl, rfl⟩ := H
  have A2 := Aside0.mk A20
  have A3 := Aside0.mk A30
  clear A20 A30 h h2
  go_enter Try.func20, Try.ntmps20
  go_wp2_with (first | (go_at_call 44; refine (spec_l1Cur_lines.calls k _ l0 0 0 t1 t2 t3 w _ (IsS72.new w _ A0 c0 l0 0 0 HB.out HR0.out) (below_alloc HB.out _) A2.out).mono ?_; clear A2; rintro e w5 ⟨v0, rfl, hr, hi, hb, hk⟩; have HR1 := Aside0.mk (IsS72.apart hi hr (by decide)); have HI := Aside0.mk hi; clear HB; have HB := Aside0.mk hb; clear hb hk hi hr) | (go_at_call 44; refine (spec_l1Cur_lines.calls k _ l0 t2 t3 u1 u2 u3 w _ HI.out HB.out A3.out).mono ?_; rintro e w6 ⟨v1, rfl, hr, hi, hb, hk⟩; have HR2 := Aside0.mk (Kd.R_new' (u := v0) hr (Kd.R_lt HR1.out)); have n1_ := Aside0.mk (Kd.R_told (v := v1) (Kd.R_oldK HR1.out hk) (Kd.R_base hr)); have HZ := Aside0.mk HB.out.size; clear HR1 HB HI; have HR1 := n1_; have HB := Aside0.mk hb; clear n1_ hb hk hi hr))
  go_ret2
  exact ⟨_, _, rfl, Kd.R_mono (Kd.R_lower HR1.out (by simp)) (fun _ hk => hk.1.2), Kd.R_mono (Kd.R_lower HR2.out HZ.out) (fun _ hk => hk.2), HB.out⟩

end Go.Proofs.Ytkoplphcdkmilaa.All
end
section
namespace Go.Proofs.Ytkoplphcdkmilaa.All
open Go.RowKit Go.Proofs.YtkoplphcdkmilaaW.PrintWords Go.Proofs.YtkoplphcdkmilaaW.PrintLast Go.Proofs.YtkoplphcdkmilaaW.PrintMore
attribute [local go_sem] max2_int min2_int max_two min_two max_three min_three max_four min_four   -- for this text's walks alone
set_option linter.unusedVariables false
set_option linter.unusedSimpArgs false

def spec_DrawCountTrees.f (l0 : List Int) : Option (Int × Int) := (spec_DrawIsBar.f l0).bind fun bt287 => (some (bt287.1, bt287.2))
set_option maxHeartbeats 8000000 in
set_option maxRecDepth 100000 in
theorem spec_DrawCountTrees.calls (A0 : Option Addr) (c0 : Nat) (l0 : List Int) (r1 : Int) (r2 : Int) (w : World) (hr0 : Kd.C (Kd.int .u8) w A0 l0.length l0) (hc0 : l0.length ≤ c0) (h : spec_DrawCountTrees.f l0 = some (r1, r2)) :
    Calls Try.prog 5 #[.slice A0 l0.length c0] w fun e w' => e = .returned (.agg #[.int .i64 r1, .int .i64 r2]) ∧ Below w.heap.size w w' := by
  have hu25 := Try.underlying25
  have HR0 := Aside0.mk hr0
  have HC0 := Aside0.mk hc0
  clear hr0 hc0
  have HB := Aside0.mk (Below.refl w.heap.size w)
  have H : ((spec_DrawIsBar.f l0).bind fun bt287 => (some (bt287.1, bt287.2))) = some (r1, r2) := h
  clear h
  replace H := Option.bind_eq_some_iff.mp H
  obtain ⟨⟨t287, t288⟩, A20, H⟩ := H
  replace H : (some (t287, t288)) = some (r1, r2) := H
  have A2 := Aside0.mk A20
  clear A20
  simp only [Option.some.injEq, Prod.mk.injEq] at H
  obtain ⟨rfl, rfl⟩ := H
  go_enter Try.func5, Try.ntmps5
  go_wp2_with (first | ((with_reducible refine gate_dst (N := 2) rfl ?_); refine box_event ?hg (N := 2) ?hd (cs := #[.int .i64 0, .int .i64 0]) (t := 25) ?hr ?_; (case hd => rfl); (case hg => rfl); (case hr => first | (go_simp; done) | (go_simp; rfl)); intro gb286 hg w3 hbox hb; have n0_ := Aside0.mk (below_step (by repeat (first | (with_reducible first | exact HB.out | apply below_alloc | apply pw_below_drewN | apply below_drew1) | exact HB.out)) hb); have n1_ := Aside0.mk (hbox); have n2_ := Aside0.mk ((by rw [hg]; exact (below_size (by repeat (first | (with_reducible first | exact HB.out | apply below_alloc | apply pw_below_drewN | apply below_drew1) | exact HB.out))) : w.heap.size ≤ gb286)); have n3_ := Aside0.mk ((by rw [hg]; exact (below_size (by repeat (first | (with_reducible first | exact HB.out | apply below_alloc | apply pw_below_drewN | apply below_drew1) | exact HB.out))) : w.heap.size ≤ gb286)); clear HB; have HB := n0_; have BK286 := n1_; have GW286 := n2_; have GE286 := n3_; clear n0_ n1_ n2_ n3_; clear hb hbox hg) | ((with_reducible refine gate_callee (f := 26) rfl ?_); refine goesL_ (some 4) rfl rfl Try.func26 (by kernel_rfl) rfl #[.slice A0 l0.length c0] rfl (by (try simp only [List.map_toArray, List.map_cons, List.map_nil]); first | done | rfl | (simp only [List.length_drop, List.length_take]; rfl)) ?_; (with_reducible refine (spec_DrawIsBar.calls _ _ l0 t287 t288 _ ?side1 ?side2 A2.out).mono ?_); (case side1 => repeat (first | exact (Kd.C_below HR0.out HB.out) | (with_reducible refine Kd.C_alloc ?_ _) | (with_reducible refine Kd.C_drewN ?_ _) | (with_reducible refine Kd.C_drew ?_))); (case side2 => exact HC0.out); rintro e w4 ⟨rfl, hb⟩; refine ⟨_, rfl, ?_⟩; have n0_ := Aside0.mk (blk_below (g := gb286) (o := .cells #[.int .i64 0, .int .i64 0] 25 (0, 0)) (by (with_reducible repeat (first | refine blk_drewN ?_ _ | refine blk_drew ?_ | refine blk_alloc ?_ _)); exact BK286.out) hb); have n1_ := Aside0.mk (below_step (by repeat (first | (with_reducible first | exact HB.out | apply below_alloc | apply pw_below_drewN | apply below_drew1 | refine below_set ?_ GE286.out) | exact HB.out)) hb); clear BK286; clear HB; have BK286 := n0_; have HB := n1_; clear n0_ n1_; (try clear hb); (try clear hb2); (try clear hk); (try clear hi); have hcz5_0 : w4.cell? ⟨gb286, 0, none⟩ = some (.int .i64 0) := (blk_cell BK286.out 0).trans rfl; have hcz5_1 : w4.cell? ⟨gb286, 1, none⟩ = some (.int .i64 0) := (blk_cell BK286.out 1).trans rfl; have hfz5_0 := blk_frozen BK286.out 0; have hfz5_1 := blk_frozen BK286.out 1))
  refine bodyPost_ret (results_cell_row rfl _ _ gb286 25 #[.int .i64 t287, .int .i64 t288] (0, 0) _ rfl (by (with_reducible repeat (first | refine blk_drewN ?_ _ | refine blk_drew ?_ | refine blk_alloc ?_ _)); refine blk_put (cs := #[.int .i64 t287, .int .i64 0]) ?_ 1 _ rfl; (with_reducible repeat (first | refine blk_drewN ?_ _ | refine blk_drew ?_ | refine blk_alloc ?_ _)); refine blk_put (cs := #[.int .i64 0, .int .i64 0]) ?_ 0 _ rfl; (with_reducible repeat (first | refine blk_drewN ?_ _ | refine blk_drew ?_ | refine blk_alloc ?_ _)); exact BK286.out) Try.underlying25 rfl (by kernel_rfl)) rfl ?_
  exact ⟨by first | rfl | (simp [errW_none, errW_some] <;> rfl) | (simp [*, errW_none, errW_some] <;> rfl), by repeat (first | (with_reducible first | exact HB.out | apply below_alloc | apply pw_below_drewN | apply below_drew1 | refine below_set ?_ GE286.out) | exact HB.out)⟩

end Go.Proofs.Ytkoplphcdkmilaa.All
end
section
namespace Go.Proofs.Ytkoplphcdkmilaa.All
open Go.RowKit Go.Proofs.YtkoplphcdkmilaaW.PrintWords Go.Proofs.YtkoplphcdkmilaaW.PrintLast Go.Proofs.YtkoplphcdkmilaaW.PrintMore
attribute [local go_sem] max2_int min2_int max_two min_two max_three min_three max_four min_four   -- for this text's walks alone
set_option linter.unusedVariables false
set_option linter.unusedSimpArgs false

def spec_DrawFirstToEat.f (l0 : List Int) : Option (Int × Int × Int) := (spec_DrawLeastToEat.f l0).bind fun bt302 => (some (bt302.1, bt302.2.1, bt302.2.2))
set_option maxHeartbeats 8000000 in
set_option maxRecDepth 100000 in
theorem spec_DrawFirstToEat.calls (A0 : Option Addr) (c0 : Nat) (l0 : List Int) (r1 : Int) (r2 : Int) (r3 : Int) (w : World) (hr0 : Kd.C (Kd.int .u8) w A0 l0.length l0) (hc0 : l0.length ≤ c0) (h : spec_DrawFirstToEat.f l0 = some (r1, r2, r3)) :
    Calls Try.prog 16 #[.slice A0 l0.length c0] w fun e w' => e = .returned (.tuple #[.agg #[.int .i64 r1, .int .i64 r2], .int .i64 r3]) ∧ Below w.heap.size w w' := by
  have hu25 := Try.underlying25
  have HR0 := Aside0.mk hr0
  have HC0 := Aside0.mk hc0
  clear hr0 hc0
  have HB := Aside0.mk (Below.refl w.heap.size w)
  have H : ((spec_DrawLeastToEat.f l0).bind fun bt302 => (some (bt302.1, bt302.2.1, bt302.2.2))) = some (r1, r2, r3) := h
  clear h
  replace H := Option.bind_eq_some_iff.mp H
  obtain ⟨⟨t302, t303, t304⟩, A20, H⟩ := H
  replace H : (some (t302, t303, t304)) = some (r1, r2, r3) := H
  have A2 := Aside0.mk A20
  clear A20
  simp only [Option.some.injEq, Prod.mk.injEq] at H
  obtain ⟨rfl, rfl, rfl⟩ := H
  go_enter Try.func16, Try.ntmps16
  go_wp2_with (first | ((with_reducible refine gate_dst (N := 2) rfl ?_); refine box_event ?hg (N := 2) ?hd (cs := #[.int .i64 0, .int .i64 0]) (t := 25) ?hr ?_; (case hd => rfl); (case hg => rfl); (case hr => first | (go_simp; done) | (go_simp; rfl)); intro gb301 hg w3 hbox hb; have n0_ := Aside0.mk (below_step (by repeat (first | (with_reducible first | exact HB.out | apply below_alloc | apply pw_below_drewN | apply below_drew1) | exact HB.out)) hb); have n1_ := Aside0.mk (hbox); have n2_ := Aside0.mk ((by rw [hg]; exact (below_size (by repeat (first | (with_reducible first | exact HB.out | apply below_alloc | apply pw_below_drewN | apply below_drew1) | exact HB.out))) : w.heap.size ≤ gb301)); have n3_ := Aside0.mk ((by rw [hg]; exact (below_size (by repeat (first | (with_reducible first | exact HB.out | apply below_alloc | apply pw_below_drewN | apply below_drew1) | exact HB.out))) : w.heap.size ≤ gb301)); clear HB; have HB := n0_; have BK301 := n1_; have GW301 := n2_; have GE301 := n3_; clear n0_ n1_ n2_ n3_; clear hb hbox hg) | ((with_reducible refine gate_callee (f := 38) rfl ?_); refine goesL_ (some 5) rfl rfl Try.func38 (by kernel_rfl) rfl #[.slice A0 l0.length c0] rfl (by (try simp only [List.map_toArray, List.map_cons, List.map_nil]); first | done | rfl | (simp only [List.length_drop, List.length_take]; rfl)) ?_; (with_reducible refine (spec_DrawLeastToEat.calls _ _ l0 t302 t303 t304 _ ?side1 ?side2 A2.out).mono ?_); (case side1 => repeat (first | exact (Kd.C_below HR0.out HB.out) | (with_reducible refine Kd.C_alloc ?_ _) | (with_reducible refine Kd.C_drewN ?_ _) | (with_reducible refine Kd.C_drew ?_))); (case side2 => exact HC0.out); rintro e w4 ⟨rfl, hb⟩; refine ⟨_, rfl, ?_⟩; have n0_ := Aside0.mk (blk_below (g := gb301) (o := .cells #[.int .i64 0, .int .i64 0] 25 (0, 0)) (by (with_reducible repeat (first | refine blk_drewN ?_ _ | refine blk_drew ?_ | refine blk_alloc ?_ _)); exact BK301.out) hb); have n1_ := Aside0.mk (below_step (by repeat (first | (with_reducible first | exact HB.out | apply below_alloc | apply pw_below_drewN | apply below_drew1 | refine below_set ?_ GE301.out) | exact HB.out)) hb); clear BK301; clear HB; have BK301 := n0_; have HB := n1_; clear n0_ n1_; (try clear hb); (try clear hb2); (try clear hk); (try clear hi); have hcz5_0 : w4.cell? ⟨gb301, 0, none⟩ = some (.int .i64 0) := (blk_cell BK301.out 0).trans rfl; have hcz5_1 : w4.cell? ⟨gb301, 1, none⟩ = some (.int .i64 0) := (blk_cell BK301.out 1).trans rfl; have hfz5_0 := blk_frozen BK301.out 0; have hfz5_1 := blk_frozen BK301.out 1))
  refine bodyPost_ret (results_ct rfl _ _ gb301 25 #[.int .i64 t302, .int .i64 t303] (0, 0) _ rfl (by (with_reducible repeat (first | refine blk_drewN ?_ _ | refine blk_drew ?_ | refine blk_alloc ?_ _)); refine blk_put (cs := #[.int .i64 t302, .int .i64 0]) ?_ 1 _ rfl; (with_reducible repeat (first | refine blk_drewN ?_ _ | refine blk_drew ?_ | refine blk_alloc ?_ _)); refine blk_put (cs := #[.int .i64 0, .int .i64 0]) ?_ 0 _ rfl; (with_reducible repeat (first | refine blk_drewN ?_ _ | refine blk_drew ?_ | refine blk_alloc ?_ _)); exact BK301.out) Try.underlying25 rfl (by kernel_rfl)) rfl ?_
  exact ⟨by first | rfl | (simp [errW_none, errW_some] <;> rfl) | (simp [*, errW_none, errW_some] <;> rfl), by repeat (first | (with_reducible first | exact HB.out | apply below_alloc | apply pw_below_drewN | apply below_drew1 | refine below_set ?_ GE301.out) | exact HB.out)⟩

end Go.Proofs.Ytkoplphcdkmilaa.All
end
section
namespace Go.Proofs.Ytkoplphcdkmilaa.All
open Go.RowKit Go.Proofs.YtkoplphcdkmilaaW.PrintWords Go.Proofs.YtkoplphcdkmilaaW.PrintLast Go.Proofs.YtkoplphcdkmilaaW.PrintMore
set_option linter.unusedVariables false

def Bytes (l : List Int) : Prop := ∀ i, 0 ≤ rd l i ∧ rd l i ≤ 255
theorem wraps63 (n : Int) (h₀ : 0 ≤ n) (h₁ : n < 2 ^ 63) : IntKind.u64.wrap n = n := by rw [IntKind.wrap_u64]; omega
theorem u64_in (n : Int) : 0 ≤ IntKind.u64.wrap n ∧ IntKind.u64.wrap n < 18446744073709551616 := by rw [IntKind.wrap_u64]; omega
theorem low_byte (x : Int) : 0 ≤ wrap64 (Go.bits .and .u64 (IntKind.u64.wrap x / 1099511627776) 255) ∧ wrap64 (Go.bits .and .u64 (IntKind.u64.wrap x / 1099511627776) 255) ≤ 255 := by
  obtain ⟨h0, h1⟩ := u64_in x
  generalize IntKind.u64.wrap x = y at *
  have e : ((2 : Int) ^ 8 - 1) = 255 := by decide
  have e2 : ((2 : Int) ^ 8) = 256 := by decide
  have h := bits_mask .u64 63 (by decide) wraps63 8 (by decide) (y / 1099511627776) (by omega) (by omega)
  rw [e, e2] at h
  rw [h]
  unfold wrap64
  omega

theorem next_total {l : List Int} (hl : Bytes l) {p : Int} (s : Int) (h0 : 0 ≤ p) (h1 : p ≤ 1000000) : ∃ r s', spec_l1Cur_next.f l p s = some (r, p + 1, s') ∧ 0 ≤ r ∧ r ≤ 255 := by
  have hw : wrap64 (p + 1) = p + 1 := by unfold wrap64; omega
  obtain ⟨b0, b1⟩ := hl p
  have hb : wrap64 (rd l p) = rd l p := by unfold wrap64; omega
  unfold spec_l1Cur_next.f
  rw [hw]
  split
  · split
    · exact ⟨_, _, rfl, by rw [hb]; exact b0, by rw [hb]; exact b1⟩
    · exact ⟨_, _, rfl, (low_byte _).1, (low_byte _).2⟩
  · split
    · exact ⟨_, _, rfl, by omega, by omega⟩
    · exact ⟨_, _, rfl, (low_byte _).1, (low_byte _).2⟩

theorem pick_total {l : List Int} (hl : Bytes l) {p a : Int} (s : Int) (h0 : 0 ≤ p) (h1 : p ≤ 1000000) (ha : 1 ≤ a) (ha2 : a ≤ 200) : ∃ r p' s', spec_l1Cur_pick.f l p s a = some (r, p', s') ∧ 0 ≤ r ∧ r < a ∧ p ≤ p' ∧ p' ≤ p + 1 := by
  unfold spec_l1Cur_pick.f
  split
  · exact ⟨0, p, s, rfl, by omega, by omega, by omega, by omega⟩
  · obtain ⟨r, s', e, r0, r1⟩ := next_total hl s h0 h1
    rw [e, Option.bind_some]
    dsimp only
    rw [if_neg (by omega), if_neg (by omega)]
    refine ⟨_, _, _, rfl, Int.tmod_nonneg _ r0, Int.tmod_lt_of_pos _ (by omega), by omega, by omega⟩

theorem among_total {l : List Int} (hl : Bytes l) {p : Int} (s : Int) (xs : List Int) (h0 : 0 ≤ p) (h1 : p ≤ 1000000) (ha : 1 ≤ xs.length) (ha2 : xs.length ≤ 200) : ∃ r p' s', spec_l1Cur_among.f l p s xs = some (r, p', s') ∧ p ≤ p' ∧ p' ≤ p + 1 := by
  obtain ⟨r, p', s', e, r0, r1, r2, r3⟩ := pick_total hl s h0 h1 (a := (xs.length : Int)) (by omega) (by omega)
  unfold spec_l1Cur_among.f
  rw [e, Option.bind_some]
  dsimp only
  rw [if_pos r0, if_pos r1]
  exact ⟨_, _, _, rfl, r2, r3⟩

theorem bar_total {l : List Int} (hl : Bytes l) {p : Int} (s : Int) (h0 : 0 ≤ p) (h1 : p ≤ 1000) : ∃ W H p' s', spec_l1Cur_bar.f l p s = some (W, H, p', s') ∧ p ≤ p' ∧ p' ≤ p + 10 := by
  obtain ⟨a, p1, s1, e1, _, _, q1, q2⟩ := pick_total hl s h0 (by omega) (a := 6) (by omega) (by omega)
  obtain ⟨b, p2, s2, e2, _, _, q3, q4⟩ := pick_total hl s1 (p := p1) (by omega) (by omega) (a := 5) (by omega) (by omega)
  obtain ⟨c, p3, s3, e3, _, _, q5, q6⟩ := pick_total hl s2 (p := p2) (by omega) (by omega) (a := 20) (by omega) (by omega)
  obtain ⟨d, p4, s4, e4, q7, q8⟩ := among_total hl s3 (p := p3) ([(-1), 0, 1, 12, 13, 4611686018427387904] : List Int) (by omega) (by omega) (by simp) (by simp)
  unfold spec_l1Cur_bar.f spec_l1Cur_sureBar.f
  rw [e1]; dsimp only [Option.bind_some]
  rw [e2]; dsimp only [Option.bind_some]
  rw [e3]; dsimp only [Option.bind_some]
  split
  · rw [e4]; exact ⟨_, _, _, _, rfl, by dsimp only; omega, by dsimp only; omega⟩
  · split
    · rw [e4]; exact ⟨_, _, _, _, rfl, by dsimp only; omega, by dsimp only; omega⟩
    · exact ⟨_, _, _, _, rfl, by omega, by omega⟩

theorem drawBar_total {l : List Int} (hl : Bytes l) : ∃ W H, spec_DrawCountTrees.f l = some (W, H) := by
  obtain ⟨W, H, p, s, e, _⟩ := bar_total hl (p := 0) 0 (by omega) (by omega)
  unfold spec_DrawCountTrees.f spec_DrawIsBar.f
  rw [e]
  exact ⟨_, _, rfl⟩

theorem least_some (a b : Int) : spec_l1Least.f a b = some (if a < b then a else b) := by unfold spec_l1Least.f; split <;> rfl
theorem most_some (a b : Int) : spec_l1Most.f a b = some (if a > b then a else b) := by unfold spec_l1Most.f; split <;> rfl

theorem drawEat_total {l : List Int} (hl : Bytes l) : ∃ U V q, spec_DrawFirstToEat.f l = some (U, V, q) := by
  obtain ⟨W, H, p, s, e, q1, q2⟩ := bar_total hl (p := 0) 0 (by omega) (by omega)
  unfold spec_DrawFirstToEat.f spec_DrawLeastToEat.f
  rw [e]; dsimp only [Option.bind_some]
  rw [least_some]; dsimp only [Option.bind_some]
  rw [least_some]; dsimp only [Option.bind_some]
  rw [most_some]; dsimp only [Option.bind_some]
  rw [least_some]; dsimp only [Option.bind_some]
  generalize wrap64 ((if W < 12 then W else 12) * (if H < 12 then H else 12)) = z
  obtain ⟨n, hn⟩ : ∃ n, n = (if 31 < (if 1 > z then 1 else z) then 31 else (if 1 > z then 1 else z)) := ⟨_, rfl⟩
  rw [← hn]
  have n1 : 1 ≤ n := by rw [hn]; split <;> split <;> omega
  have n2 : n ≤ 31 := by rw [hn]; split <;> omega
  have hw : wrap64 (n + 2) = n + 2 := by unfold wrap64; omega
  rw [hw]
  obtain ⟨b, p2, s2, e2, _, _, q3, q4⟩ := pick_total hl s (p := p) (by omega) (by omega) (a := n + 2) (by omega) (by omega)
  rw [e2]; dsimp only [Option.bind_some]
  obtain ⟨c, p3, s3, e3, _, _, q5, q6⟩ := pick_total hl s2 (p := p2) (by omega) (by omega) (a := 9) (by omega) (by omega)
  rw [e3]
  exact ⟨_, _, _, rfl⟩

theorem lines_l1 {l : List Int} (hl : Bytes l) : ∀ (m : Nat) (xs : List Int) (p s : Int), 0 ≤ p → p + m ≤ 1000 → 12 ≤ xs.length + m → xs.length ≤ 100 → ∃ k ys p' s', spec_l1Cur_lines.l1 k xs l p s = some (ys, p', s') ∧ 0 ≤ p' ∧ p' ≤ p + m + 1
  | 0, xs, p, s, h0, h1, hx, hx2 => by
    obtain ⟨r, p', s', e, r0, r1, r2, r3⟩ := pick_total hl s h0 (by omega) (a := 2) (by omega) (by omega)
    have hw : wrap64 (11 + r) = 11 + r := by unfold wrap64; omega
    refine ⟨1, xs, p', s', ?_, by omega, by omega⟩
    unfold spec_l1Cur_lines.l1
    rw [e]; dsimp only [Option.bind_some]
    rw [hw, if_neg (by omega)]
  | m + 1, xs, p, s, h0, h1, hx, hx2 => by
    obtain ⟨r, p', s', e, r0, r1, r2, r3⟩ := pick_total hl s h0 (by omega) (a := 2) (by omega) (by omega)
    have hw : wrap64 (11 + r) = 11 + r := by unfold wrap64; omega
    by_cases hc : (xs.length : Int) < 11 + r
    · obtain ⟨k, ys, p2, s2, e2, q1, q2⟩ := lines_l1 hl m (xs ++ [3]) p' s' (by omega) (by omega) (by rw [List.length_append, List.length_singleton]; omega) (by rw [List.length_append, List.length_singleton]; omega)
      refine ⟨k + 1, ys, p2, s2, ?_, q1, by omega⟩
      unfold spec_l1Cur_lines.l1
      rw [e]; dsimp only [Option.bind_some]
      rw [hw, if_pos hc, if_pos (by omega), e2]
    · refine ⟨1, xs, p', s', ?_, by omega, by omega⟩
      unfold spec_l1Cur_lines.l1
      rw [e]; dsimp only [Option.bind_some]
      rw [hw, if_neg hc]

theorem lines_l0 {l : List Int} (hl : Bytes l) : ∀ (m : Nat) (xs : List Int) (p s : Int), 0 ≤ p → p + m ≤ 500 → xs.length + m ≤ 10 → m ≤ 5 → ∃ k ys p' s', spec_l1Cur_lines.l0 k xs (m : Int) l p s = some (ys, p', s') ∧ 0 ≤ p' ∧ p' ≤ p + m + 20
  | 0, xs, p, s, h0, h1, hx, hm => by
    obtain ⟨r, p', s', e, r0, r1, r2, r3⟩ := pick_total hl s h0 (by omega) (a := 16) (by omega) (by omega)
    by_cases c0 : r = 0
    · obtain ⟨d, p4, s4, e4, q7, q8⟩ := among_total hl s' (p := p') ([(-1), 0, 100, 101, 4611686018427387904] : List Int) (by omega) (by omega) (by simp) (by simp)
      refine ⟨1, xs ++ [d], p4, s4, ?_, by omega, by omega⟩
      unfold spec_l1Cur_lines.l0
      rw [if_neg (by omega), e]; dsimp only [Option.bind_some]
      rw [if_pos c0, e4]; dsimp only [Option.bind_some]
      rw [if_pos (by omega)]
    · by_cases c1 : r = 1
      · obtain ⟨k, ys, p2, s2, e2, q1, q2⟩ := lines_l1 hl 12 xs p' s' (by omega) (by omega) (by omega) (by omega)
        refine ⟨k + 1, ys, p2, s2, ?_, q1, by omega⟩
        unfold spec_l1Cur_lines.l0
        rw [if_neg (by omega), e]; dsimp only [Option.bind_some]
        rw [if_neg c0, if_pos c1, e2]
      · refine ⟨1, xs, p', s', ?_, by omega, by omega⟩
        unfold spec_l1Cur_lines.l0
        rw [if_neg (by omega), e]; dsimp only [Option.bind_some]
        rw [if_neg c0, if_neg c1]
  | m + 1, xs, p, s, h0, h1, hx, hm => by
    obtain ⟨r, p', s', e, r0, r1, r2, r3⟩ := pick_total hl s h0 (by omega) (a := 9) (by omega) (by omega)
    obtain ⟨k, ys, p2, s2, e2, q1, q2⟩ := lines_l0 hl m (xs ++ [r]) p' s' (by omega) (by omega) (by rw [List.length_append, List.length_singleton]; omega) (by omega)
    refine ⟨k + 1, ys, p2, s2, ?_, q1, by omega⟩
    unfold spec_l1Cur_lines.l0
    rw [if_pos (by omega), e]; dsimp only [Option.bind_some]
    rw [if_pos (by omega), show wrap64 (((m + 1 : Nat) : Int) - 1) = (m : Int) by unfold wrap64; omega, e2]

theorem lines_total {l : List Int} (hl : Bytes l) {p : Int} (s : Int) (h0 : 0 ≤ p) (h1 : p ≤ 400) : ∃ k ys p' s', spec_l1Cur_lines.f k l p s = some (ys, p', s') ∧ 0 ≤ p' ∧ p' ≤ p + 30 := by
  obtain ⟨r, p', s', e, r0, r1, r2, r3⟩ := pick_total hl s h0 (by omega) (a := 5) (by omega) (by omega)
  obtain ⟨m, rfl⟩ : ∃ m : Nat, r = (m : Int) := ⟨r.toNat, by omega⟩
  obtain ⟨k, ys, p2, s2, e2, q1, q2⟩ := lines_l0 hl m [] p' s' (by omega) (by omega) (by simp; omega) (by omega)
  refine ⟨k, ys, p2, s2, ?_, q1, by omega⟩
  unfold spec_l1Cur_lines.f
  rw [e]; dsimp only [Option.bind_some]
  rw [e2]

theorem drawLines_total {l : List Int} (hl : Bytes l) : ∃ k x y, spec_DrawLeastByLines.f k l = some (x, y) := by
  obtain ⟨k1, x, p, s, e1, p0, p1⟩ := lines_total hl (p := 0) 0 (by omega) (by omega)
  obtain ⟨k2, y, p', s', e2, _⟩ := lines_total hl (p := p) s p0 (by omega)
  have up : ∀ a b c j i r, spec_l1Cur_lines.f j a b c = some r → spec_l1Cur_lines.f (j + i) a b c = some r := fun a b c j i r h => by
    induction i with
    | zero => exact h
    | succ i ih => exact spec_l1Cur_lines.mono a b c (j + i) r ih
  refine ⟨k1 + k2, x, y, ?_⟩
  unfold spec_DrawLeastByLines.f
  rw [up _ _ _ _ _ _ e1]; dsimp only [Option.bind_some]
  rw [show k1 + k2 = k2 + k1 by omega, up _ _ _ _ _ _ e2]; rfl
end Go.Proofs.Ytkoplphcdkmilaa.All
end
