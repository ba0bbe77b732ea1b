/- Texts of this claim joined, in the order in which they build: Ax11, Ax12, PTrees, PEatLaw. -/
import Derived.Test.YtkoplphcdkmilaaK18
section
namespace Go.Proofs.Ytkoplphcdkmilaa.All
open Go.RowKit Go.Proofs.YtkoplphcdkmilaaW.PrintWords Go.Proofs.YtkoplphcdkmilaaW.PrintLast Go.Proofs.YtkoplphcdkmilaaW.PrintMore
attribute [local go_sem] max2_int min2_int max_two min_two max_three min_three max_four min_four   -- for this text's walks alone
set_option linter.unusedVariables false
set_option linter.unusedSimpArgs false

def impl_CountOrders.f (a0_0 : Int) (a0_1 : Int) : Option (Int × Bool) := (impl_counted.f a0_0 a0_1 true).bind fun bt296 => (some (bt296.1, bt296.2))
set_option maxHeartbeats 8000000 in
set_option maxRecDepth 100000 in
theorem impl_CountOrders.calls (a0_0 : Int) (a0_1 : Int) (r1 : Int) (r2 : Bool) (w : World) (h : impl_CountOrders.f a0_0 a0_1 = some (r1, r2)) :
    Calls Try.prog 8 #[.agg #[.int .i64 a0_0, .int .i64 a0_1]] w fun e w' => e = .returned (.tuple #[.int .i64 r1, .bool r2]) ∧ Below w.heap.size w w' := by
  have hu25 := Try.underlying25
  have HB := Aside0.mk (Below.refl w.heap.size w)
  have H : ((impl_counted.f a0_0 a0_1 true).bind fun bt296 => (some (bt296.1, bt296.2))) = some (r1, r2) := h
  clear h
  replace H := Option.bind_eq_some_iff.mp H
  obtain ⟨⟨t296, t297⟩, A20, H⟩ := H
  replace H : (some (t296, t297)) = some (r1, r2) := H
  have A2 := Aside0.mk A20
  clear A20
  simp only [Option.some.injEq, Prod.mk.injEq] at H
  obtain ⟨rfl, rfl⟩ := H
  go_enter Try.func8, Try.ntmps8
  go_wp2_with (first | ((with_reducible refine gate_dst (N := 1) rfl ?_); refine box_event ?hg (N := 1) ?hd (cs := #[.int .i64 a0_0, .int .i64 a0_1]) (t := 25) ?hr ?_; (case hd => rfl); (case hg => rfl); (case hr => first | (go_simp; done) | (go_simp; rfl)); intro gb295 hg w3 hbox hb; have n0_ := Aside0.mk (below_step (by repeat (first | (with_reducible first | exact HB.out | apply below_alloc | apply pw_below_drewN | apply below_drew1) | exact HB.out)) hb); have n1_ := Aside0.mk (hbox); have n2_ := Aside0.mk ((by rw [hg]; exact (below_size (by repeat (first | (with_reducible first | exact HB.out | apply below_alloc | apply pw_below_drewN | apply below_drew1) | exact HB.out))) : w.heap.size ≤ gb295)); have n3_ := Aside0.mk ((by rw [hg]; exact (below_size (by repeat (first | (with_reducible first | exact HB.out | apply below_alloc | apply pw_below_drewN | apply below_drew1) | exact HB.out))) : w.heap.size ≤ gb295)); clear HB; have HB := n0_; have BK295 := n1_; have GW295 := n2_; have GE295 := n3_; clear n0_ n1_ n2_ n3_; clear hb hbox hg; have hcz4_0 : w3.cell? ⟨gb295, 0, none⟩ = some (.int .i64 a0_0) := (blk_cell BK295.out 0).trans rfl; have hcz4_1 : w3.cell? ⟨gb295, 1, none⟩ = some (.int .i64 a0_1) := (blk_cell BK295.out 1).trans rfl; have hfz4_0 := blk_frozen BK295.out 0; have hfz4_1 := blk_frozen BK295.out 1) | ((with_reducible refine gate_callee (f := 27) rfl ?_); refine goesL_ (some 5) rfl rfl Try.func27 (by kernel_rfl) rfl #[.agg #[.int .i64 a0_0, .int .i64 a0_1], .bool true] rfl (by (try simp only [List.map_toArray, List.map_cons, List.map_nil]); first | done | rfl | (simp only [List.length_drop, List.length_take]; rfl)) ?_; (with_reducible refine (impl_counted.calls a0_0 a0_1 true t296 t297 _ A2.out).mono ?_); rintro e w5 ⟨rfl, hb⟩; refine ⟨_, rfl, ?_⟩; have n0_ := Aside0.mk (blk_below (g := gb295) (o := .cells #[.int .i64 a0_0, .int .i64 a0_1] 25 (0, 0)) (by (with_reducible repeat (first | refine blk_drewN ?_ _ | refine blk_drew ?_ | refine blk_alloc ?_ _)); exact BK295.out) hb); have n1_ := Aside0.mk (below_step (by repeat (first | (with_reducible first | exact HB.out | apply below_alloc | apply pw_below_drewN | apply below_drew1 | refine below_set ?_ GE295.out) | exact HB.out)) hb); clear BK295; clear HB; have BK295 := n0_; have HB := n1_; clear n0_ n1_; (try clear hb); (try clear hb2); (try clear hk); (try clear hi)))
  go_ret2
  exact ⟨by first | rfl | (simp [errW_none, errW_some] <;> rfl) | (simp [*, errW_none, errW_some] <;> rfl), by repeat (first | (with_reducible first | exact HB.out | apply below_alloc | apply pw_below_drewN | apply below_drew1 | refine below_set ?_ GE295.out) | exact HB.out)⟩

end Go.Proofs.Ytkoplphcdkmilaa.All
end
section
namespace Go.Proofs.Ytkoplphcdkmilaa.All
open Go.RowKit Go.Proofs.YtkoplphcdkmilaaW.PrintWords Go.Proofs.YtkoplphcdkmilaaW.PrintLast Go.Proofs.YtkoplphcdkmilaaW.PrintMore
attribute [local go_sem] max2_int min2_int max_two min_two max_three min_three max_four min_four   -- for this text's walks alone
set_option linter.unusedVariables false
set_option linter.unusedSimpArgs false

def spec_CountOrders.f (a0_0 : Int) (a0_1 : Int) : Option (Int × Bool) := (spec_brGood.f a0_0 a0_1).bind fun t299 => (if t299 = true then ((spec_brCounts.f a0_0 a0_1 true).bind fun t300 => (if t300 > 1000000000000000 then (some (0, false)) else (some (t300, true)))) else (some (0, false)))
set_option maxHeartbeats 8000000 in
set_option maxRecDepth 100000 in
theorem spec_CountOrders.calls (a0_0 : Int) (a0_1 : Int) (r1 : Int) (r2 : Bool) (w : World) (h : spec_CountOrders.f a0_0 a0_1 = some (r1, r2)) :
    Calls Try.prog 9 #[.agg #[.int .i64 a0_0, .int .i64 a0_1]] w fun e w' => e = .returned (.tuple #[.int .i64 r1, .bool r2]) ∧ Below w.heap.size w w' := by
  have hu25 := Try.underlying25
  have HB := Aside0.mk (Below.refl w.heap.size w)
  have H : ((spec_brGood.f a0_0 a0_1).bind fun t299 => (if t299 = true then ((spec_brCounts.f a0_0 a0_1 true).bind fun t300 => (if t300 > 1000000000000000 then (some (0, false)) else (some (t300, true)))) else (some (0, false)))) = some (r1, r2) := h
  clear h
  replace H := Option.bind_eq_some_iff.mp H
  obtain ⟨t299, A20, H⟩ := H
  replace H : (if t299 = true then ((spec_brCounts.f a0_0 a0_1 true).bind fun t300 => (if t300 > 1000000000000000 then (some (0, false)) else (some (t300, true)))) else (some (0, false))) = some (r1, r2) := H
  have A2 := Aside0.mk A20
  clear A20
  by_cases c3 : t299 = true
  · subst c3
    have H1 : ((spec_brCounts.f a0_0 a0_1 true).bind fun t300 => (if t300 > 1000000000000000 then (some (0, false)) else (some (t300, true)))) = some (r1, r2) := by rw [if_pos rfl] at H; exact H
    clear H
    have H := H1
    clear H1
    replace H := Option.bind_eq_some_iff.mp H
    obtain ⟨t300, A40, H⟩ := H
    replace H : (if t300 > 1000000000000000 then (some (0, false)) else (some (t300, true))) = some (r1, r2) := H
    have A4 := Aside0.mk A40
    clear A40
    by_cases c5 : t300 > 1000000000000000
    · rw [if_pos c5] at H
      have c5b0 : decide (1000000000000000 < t300) = true := decide_eq_true c5
      clear c5
      simp only [Option.some.injEq, Prod.mk.injEq] at H
      obtain ⟨rfl, rfl⟩ := H
      go_enter Try.func9, Try.ntmps9
      go_wp2_with (first | ((with_reducible refine gate_dst (N := 1) rfl ?_); refine box_event ?hg (N := 1) ?hd (cs := #[.int .i64 a0_0, .int .i64 a0_1]) (t := 25) ?hr ?_; (case hd => rfl); (case hg => rfl); (case hr => first | (go_simp; done) | (go_simp; rfl)); intro gb298 hg w6 hbox hb; have n0_ := Aside0.mk (below_step (by repeat (first | (with_reducible first | exact HB.out | apply below_alloc | apply pw_below_drewN | apply below_drew1) | exact HB.out)) hb); have n1_ := Aside0.mk (hbox); have n2_ := Aside0.mk ((by rw [hg]; exact (below_size (by repeat (first | (with_reducible first | exact HB.out | apply below_alloc | apply pw_below_drewN | apply below_drew1) | exact HB.out))) : w.heap.size ≤ gb298)); have n3_ := Aside0.mk ((by rw [hg]; exact (below_size (by repeat (first | (with_reducible first | exact HB.out | apply below_alloc | apply pw_below_drewN | apply below_drew1) | exact HB.out))) : w.heap.size ≤ gb298)); clear HB; have HB := n0_; have BK298 := n1_; have GW298 := n2_; have GE298 := n3_; clear n0_ n1_ n2_ n3_; clear hb hbox hg; have hcz7_0 : w6.cell? ⟨gb298, 0, none⟩ = some (.int .i64 a0_0) := (blk_cell BK298.out 0).trans rfl; have hcz7_1 : w6.cell? ⟨gb298, 1, none⟩ = some (.int .i64 a0_1) := (blk_cell BK298.out 1).trans rfl; have hfz7_0 := blk_frozen BK298.out 0; have hfz7_1 := blk_frozen BK298.out 1) | ((with_reducible refine gate_callee (f := 28) rfl ?_); refine goesL_ (some 6) rfl rfl Try.func28 (by kernel_rfl) rfl #[.agg #[.int .i64 a0_0, .int .i64 a0_1]] rfl (by (try simp only [List.map_toArray, List.map_cons, List.map_nil]); first | done | rfl | (simp only [List.length_drop, List.length_take]; rfl)) ?_; (with_reducible refine (spec_brGood.calls a0_0 a0_1 true _ A2.out).mono ?_); rintro e w8 ⟨rfl, hb⟩; refine ⟨_, rfl, ?_⟩; have n0_ := Aside0.mk (blk_below (g := gb298) (o := .cells #[.int .i64 a0_0, .int .i64 a0_1] 25 (0, 0)) (by (with_reducible repeat (first | refine blk_drewN ?_ _ | refine blk_drew ?_ | refine blk_alloc ?_ _)); exact BK298.out) hb); have n1_ := Aside0.mk (below_step (by repeat (first | (with_reducible first | exact HB.out | apply below_alloc | apply pw_below_drewN | apply below_drew1 | refine below_set ?_ GE298.out) | exact HB.out)) hb); clear BK298; clear HB; have BK298 := n0_; have HB := n1_; clear n0_ n1_; (try clear hb); (try clear hb2); (try clear hk); (try clear hi); have hcz9_0 : w8.cell? ⟨gb298, 0, none⟩ = some (.int .i64 a0_0) := (blk_cell BK298.out 0).trans rfl; have hcz9_1 : w8.cell? ⟨gb298, 1, none⟩ = some (.int .i64 a0_1) := (blk_cell BK298.out 1).trans rfl; have hfz9_0 := blk_frozen BK298.out 0; have hfz9_1 := blk_frozen BK298.out 1) | ((with_reducible refine gate_callee (f := 29) rfl ?_); refine goesL_ (some 9) rfl rfl Try.func29 (by kernel_rfl) rfl #[.agg #[.int .i64 a0_0, .int .i64 a0_1], .bool true] rfl (by (try simp only [List.map_toArray, List.map_cons, List.map_nil]); first | done | rfl | (simp only [List.length_drop, List.length_take]; rfl)) ?_; (with_reducible refine (spec_brCounts.calls a0_0 a0_1 true t300 _ A4.out).mono ?_); rintro e w10 ⟨rfl, hb⟩; refine ⟨_, rfl, ?_⟩; have n0_ := Aside0.mk (blk_below (g := gb298) (o := .cells #[.int .i64 a0_0, .int .i64 a0_1] 25 (0, 0)) (by (with_reducible repeat (first | refine blk_drewN ?_ _ | refine blk_drew ?_ | refine blk_alloc ?_ _)); exact BK298.out) hb); have n1_ := Aside0.mk (below_step (by repeat (first | (with_reducible first | exact HB.out | apply below_alloc | apply pw_below_drewN | apply below_drew1 | refine below_set ?_ GE298.out) | exact HB.out)) hb); clear BK298; clear HB; have BK298 := n0_; have HB := n1_; clear n0_ n1_; (try clear hb); (try clear hb2); (try clear hk); (try clear hi)))
      go_ret2
      exact ⟨by first | rfl | (simp [errW_none, errW_some] <;> rfl) | (simp [*, errW_none, errW_some] <;> rfl), by repeat (first | (with_reducible first | exact HB.out | apply below_alloc | apply pw_below_drewN | apply below_drew1 | refine below_set ?_ GE298.out) | exact HB.out)⟩
    · rw [if_neg c5] at H
      have c5b0 : decide (1000000000000000 < t300) = false := decide_eq_false c5
      clear c5
      simp only [Option.some.injEq, Prod.mk.injEq] at H
      obtain ⟨rfl, rfl⟩ := H
      go_enter Try.func9, Try.ntmps9
      go_wp2_with (first | ((with_reducible refine gate_dst (N := 1) rfl ?_); refine box_event ?hg (N := 1) ?hd (cs := #[.int .i64 a0_0, .int .i64 a0_1]) (t := 25) ?hr ?_; (case hd => rfl); (case hg => rfl); (case hr => first | (go_simp; done) | (go_simp; rfl)); intro gb298 hg w11 hbox hb; have n0_ := Aside0.mk (below_step (by repeat (first | (with_reducible first | exact HB.out | apply below_alloc | apply pw_below_drewN | apply below_drew1) | exact HB.out)) hb); have n1_ := Aside0.mk (hbox); have n2_ := Aside0.mk ((by rw [hg]; exact (below_size (by repeat (first | (with_reducible first | exact HB.out | apply below_alloc | apply pw_below_drewN | apply below_drew1) | exact HB.out))) : w.heap.size ≤ gb298)); have n3_ := Aside0.mk ((by rw [hg]; exact (below_size (by repeat (first | (with_reducible first | exact HB.out | apply below_alloc | apply pw_below_drewN | apply below_drew1) | exact HB.out))) : w.heap.size ≤ gb298)); clear HB; have HB := n0_; have BK298 := n1_; have GW298 := n2_; have GE298 := n3_; clear n0_ n1_ n2_ n3_; clear hb hbox hg; have hcz12_0 : w11.cell? ⟨gb298, 0, none⟩ = some (.int .i64 a0_0) := (blk_cell BK298.out 0).trans rfl; have hcz12_1 : w11.cell? ⟨gb298, 1, none⟩ = some (.int .i64 a0_1) := (blk_cell BK298.out 1).trans rfl; have hfz12_0 := blk_frozen BK298.out 0; have hfz12_1 := blk_frozen BK298.out 1) | ((with_reducible refine gate_callee (f := 28) rfl ?_); refine goesL_ (some 6) rfl rfl Try.func28 (by kernel_rfl) rfl #[.agg #[.int .i64 a0_0, .int .i64 a0_1]] rfl (by (try simp only [List.map_toArray, List.map_cons, List.map_nil]); first | done | rfl | (simp only [List.length_drop, List.length_take]; rfl)) ?_; (with_reducible refine (spec_brGood.calls a0_0 a0_1 true _ A2.out).mono ?_); rintro e w13 ⟨rfl, hb⟩; refine ⟨_, rfl, ?_⟩; have n0_ := Aside0.mk (blk_below (g := gb298) (o := .cells #[.int .i64 a0_0, .int .i64 a0_1] 25 (0, 0)) (by (with_reducible repeat (first | refine blk_drewN ?_ _ | refine blk_drew ?_ | refine blk_alloc ?_ _)); exact BK298.out) hb); have n1_ := Aside0.mk (below_step (by repeat (first | (with_reducible first | exact HB.out | apply below_alloc | apply pw_below_drewN | apply below_drew1 | refine below_set ?_ GE298.out) | exact HB.out)) hb); clear BK298; clear HB; have BK298 := n0_; have HB := n1_; clear n0_ n1_; (try clear hb); (try clear hb2); (try clear hk); (try clear hi); have hcz14_0 : w13.cell? ⟨gb298, 0, none⟩ = some (.int .i64 a0_0) := (blk_cell BK298.out 0).trans rfl; have hcz14_1 : w13.cell? ⟨gb298, 1, none⟩ = some (.int .i64 a0_1) := (blk_cell BK298.out 1).trans rfl; have hfz14_0 := blk_frozen BK298.out 0; have hfz14_1 := blk_frozen BK298.out 1) | ((with_reducible refine gate_callee (f := 29) rfl ?_); refine goesL_ (some 9) rfl rfl Try.func29 (by kernel_rfl) rfl #[.agg #[.int .i64 a0_0, .int .i64 a0_1], .bool true] rfl (by (try simp only [List.map_toArray, List.map_cons, List.map_nil]); first | done | rfl | (simp only [List.length_drop, List.length_take]; rfl)) ?_; (with_reducible refine (spec_brCounts.calls a0_0 a0_1 true t300 _ A4.out).mono ?_); rintro e w15 ⟨rfl, hb⟩; refine ⟨_, rfl, ?_⟩; have n0_ := Aside0.mk (blk_below (g := gb298) (o := .cells #[.int .i64 a0_0, .int .i64 a0_1] 25 (0, 0)) (by (with_reducible repeat (first | refine blk_drewN ?_ _ | refine blk_drew ?_ | refine blk_alloc ?_ _)); exact BK298.out) hb); have n1_ := Aside0.mk (below_step (by repeat (first | (with_reducible first | exact HB.out | apply below_alloc | apply pw_below_drewN | apply below_drew1 | refine below_set ?_ GE298.out) | exact HB.out)) hb); clear BK298; clear HB; have BK298 := n0_; have HB := n1_; clear n0_ n1_; (try clear hb); (try clear hb2); (try clear hk); (try clear hi)))
      go_ret2
      exact ⟨by first | rfl | (simp [errW_none, errW_some] <;> rfl) | (simp [*, errW_none, errW_some] <;> rfl), by repeat (first | (with_reducible first | exact HB.out | apply below_alloc | apply pw_below_drewN | apply below_drew1 | refine below_set ?_ GE298.out) | exact HB.out)⟩
  · replace c3 := Bool.eq_false_iff.mpr c3
    subst c3
    have H1 : (some (0, false)) = some (r1, r2) := by rw [if_neg (show ¬ (false = true) by decide)] at H; exact H
    clear H
    have H := H1
    clear H1
    simp only [Option.some.injEq, Prod.mk.injEq] at H
    obtain ⟨rfl, rfl⟩ := H
    go_enter Try.func9, Try.ntmps9
    go_wp2_with (first | ((with_reducible refine gate_dst (N := 1) rfl ?_); refine box_event ?hg (N := 1) ?hd (cs := #[.int .i64 a0_0, .int .i64 a0_1]) (t := 25) ?hr ?_; (case hd => rfl); (case hg => rfl); (case hr => first | (go_simp; done) | (go_simp; rfl)); intro gb298 hg w16 hbox hb; have n0_ := Aside0.mk (below_step (by repeat (first | (with_reducible first | exact HB.out | apply below_alloc | apply pw_below_drewN | apply below_drew1) | exact HB.out)) hb); have n1_ := Aside0.mk (hbox); have n2_ := Aside0.mk ((by rw [hg]; exact (below_size (by repeat (first | (with_reducible first | exact HB.out | apply below_alloc | apply pw_below_drewN | apply below_drew1) | exact HB.out))) : w.heap.size ≤ gb298)); have n3_ := Aside0.mk ((by rw [hg]; exact (below_size (by repeat (first | (with_reducible first | exact HB.out | apply below_alloc | apply pw_below_drewN | apply below_drew1) | exact HB.out))) : w.heap.size ≤ gb298)); clear HB; have HB := n0_; have BK298 := n1_; have GW298 := n2_; have GE298 := n3_; clear n0_ n1_ n2_ n3_; clear hb hbox hg; have hcz17_0 : w16.cell? ⟨gb298, 0, none⟩ = some (.int .i64 a0_0) := (blk_cell BK298.out 0).trans rfl; have hcz17_1 : w16.cell? ⟨gb298, 1, none⟩ = some (.int .i64 a0_1) := (blk_cell BK298.out 1).trans rfl; have hfz17_0 := blk_frozen BK298.out 0; have hfz17_1 := blk_frozen BK298.out 1) | ((with_reducible refine gate_callee (f := 28) rfl ?_); refine goesL_ (some 6) rfl rfl Try.func28 (by kernel_rfl) rfl #[.agg #[.int .i64 a0_0, .int .i64 a0_1]] rfl (by (try simp only [List.map_toArray, List.map_cons, List.map_nil]); first | done | rfl | (simp only [List.length_drop, List.length_take]; rfl)) ?_; (with_reducible refine (spec_brGood.calls a0_0 a0_1 false _ A2.out).mono ?_); rintro e w18 ⟨rfl, hb⟩; refine ⟨_, rfl, ?_⟩; have n0_ := Aside0.mk (blk_below (g := gb298) (o := .cells #[.int .i64 a0_0, .int .i64 a0_1] 25 (0, 0)) (by (with_reducible repeat (first | refine blk_drewN ?_ _ | refine blk_drew ?_ | refine blk_alloc ?_ _)); exact BK298.out) hb); have n1_ := Aside0.mk (below_step (by repeat (first | (with_reducible first | exact HB.out | apply below_alloc | apply pw_below_drewN | apply below_drew1 | refine below_set ?_ GE298.out) | exact HB.out)) hb); clear BK298; clear HB; have BK298 := n0_; have HB := n1_; clear n0_ n1_; (try clear hb); (try clear hb2); (try clear hk); (try clear hi)))
    go_ret2
    exact ⟨by first | rfl | (simp [errW_none, errW_some] <;> rfl) | (simp [*, errW_none, errW_some] <;> rfl), by repeat (first | (with_reducible first | exact HB.out | apply below_alloc | apply pw_below_drewN | apply below_drew1 | refine below_set ?_ GE298.out) | exact HB.out)⟩

end Go.Proofs.Ytkoplphcdkmilaa.All
end
section
namespace Go.Proofs.Ytkoplphcdkmilaa.All
open Go.RowKit Go.Proofs.YtkoplphcdkmilaaW.PrintWords Go.Proofs.YtkoplphcdkmilaaW.PrintLast Go.Proofs.YtkoplphcdkmilaaW.PrintMore GBar PCount PImpl
set_option linter.unusedVariables false

theorem counted_trees (W H : Int) : impl_CountTrees.f W H = some (if okB W H ∧ cnt false W H ≤ 1000000000000000 then (cnt false W H, true) else (0, false)) := by
  unfold impl_CountTrees.f impl_counted.f; rfl
theorem counted_orders (W H : Int) : impl_CountOrders.f W H = some (if okB W H ∧ cnt true W H ≤ 1000000000000000 then (cnt true W H, true) else (0, false)) := by
  unfold impl_CountOrders.f impl_counted.f; rfl
theorem spec_trees (W H : Int) : spec_CountTrees.f W H = impl_CountTrees.f W H := by
  rw [counted_trees]; unfold spec_CountTrees.f spec_brCounts.f
  rw [brGood_eq]
  by_cases h : okB W H
  · by_cases hc : cnt false W H ≤ 1000000000000000
    · simp [h, hc, show ¬ (1000000000000000 < cnt false W H) by omega]
    · simp [h, hc, show 1000000000000000 < cnt false W H by omega]
  · simp [h]
theorem spec_orders (W H : Int) : spec_CountOrders.f W H = impl_CountOrders.f W H := by
  rw [counted_orders]; unfold spec_CountOrders.f spec_brCounts.f
  rw [brGood_eq]
  by_cases h : okB W H
  · by_cases hc : cnt true W H ≤ 1000000000000000
    · simp [h, hc, show ¬ (1000000000000000 < cnt true W H) by omega]
    · simp [h, hc, show 1000000000000000 < cnt true W H by omega]
  · simp [h]

theorem cnt_nat {o : Bool} {a b : Nat} (h : cnt o a b ≤ 1000000000000000) : cnt o a b = (N o a b : Nat) ∧ N o a b ≤ 1000000000000000 := by
  unfold cnt at h ⊢
  simp only [Int.toNat_natCast] at h ⊢
  have h2 : cut (N o a b) < cap := by unfold cap; omega
  have h3 := le_of_cut h2
  rw [cut_of_le h3] at h ⊢
  exact ⟨rfl, by omega⟩
theorem cnt_of {o : Bool} {a b : Nat} (h : N o a b ≤ 1000000000000000) : cnt o a b = (N o a b : Nat) := by
  unfold cnt
  simp only [Int.toNat_natCast]
  rw [cut_of_le (by unfold cap; omega)]

def sumT (a b : Nat) (d : Bool) (m : Nat) : Nat := ((List.range m).map fun i => term false a b (d, i + 1)).sum
theorem sumT_zero (a b : Nat) (d : Bool) : sumT a b d 0 = 0 := rfl
theorem sumT_succ (a b : Nat) (d : Bool) (m : Nat) : sumT a b d (m + 1) = sumT a b d m + term false a b (d, m + 1) := by
  unfold sumT
  rw [List.range_succ, List.map_append, sum_append]
  simp
theorem sumT_mono (a b : Nat) (d : Bool) (m : Nat) : ∀ n, sumT a b d m ≤ sumT a b d (m + n)
  | 0 => Nat.le_refl _
  | n + 1 => by rw [show m + (n + 1) = (m + n) + 1 by omega, sumT_succ]; exact Nat.le_trans (sumT_mono a b d m n) (Nat.le_add_right _ _)
theorem sumT_total {a b : Nat} (ha : 1 ≤ a) (hb : 1 ≤ b) (hp : a * b ≠ 1) : sumT a b true (a - 1) + sumT a b false (b - 1) = N false a b := by
  rw [N_rec false ha hb hp]
  unfold cutsN sumT
  rw [List.map_append, sum_append, List.map_map, List.map_map]
  rfl
theorem mul_one_both {a b : Nat} (h : a * b = 1) : a = 1 ∧ b = 1 := ⟨Nat.eq_one_of_mul_eq_one_right h, Nat.eq_one_of_mul_eq_one_left h⟩
theorem sumT_one {a b : Nat} (hp : a * b = 1) : sumT a b true (a - 1) + sumT a b false (b - 1) = 0 := by
  have h := mul_one_both hp
  rw [h.1, h.2]; rfl
theorem sumT_le {a b : Nat} (ha : 1 ≤ a) (hb : 1 ≤ b) (m : Nat) : (m ≤ a - 1 → sumT a b true m ≤ N false a b) ∧ (m ≤ b - 1 → sumT a b true (a - 1) + sumT a b false m ≤ N false a b) := by
  by_cases hp : a * b = 1
  · have h := mul_one_both hp
    rw [h.1, h.2]
    refine ⟨fun hm => ?_, fun hm => ?_⟩
    · rw [show m = 0 by omega, sumT_zero]; omega
    · rw [show m = 0 by omega, show 1 - 1 = 0 by omega, sumT_zero, sumT_zero]; omega
  · have ht := sumT_total ha hb hp
    refine ⟨fun hm => ?_, fun hm => ?_⟩
    · have := sumT_mono a b true m (a - 1 - m)
      rw [show m + (a - 1 - m) = a - 1 by omega] at this
      omega
    · have := sumT_mono a b false m (b - 1 - m)
      rw [show m + (b - 1 - m) = b - 1 by omega] at this
      omega

theorem term_eq (a b : Nat) (c : Bool × Nat) : term false a b c = N false (one a b c).1 (one a b c).2 * N false (two a b c).1 (two a b c).2 := by
  unfold term way
  rw [if_neg (by simp), Nat.mul_one]

theorem part_trees {a b : Nat} (ha : 1 ≤ a ∧ a ≤ 12) (hb : 1 ≤ b ∧ b ≤ 12) (hN : N false a b ≤ 1000000000000000) {c : Bool × Nat} (hc : c ∈ cutsN a b) :
    impl_CountTrees.f ((one a b c).1 : Nat) ((one a b c).2 : Nat) = some (((N false (one a b c).1 (one a b c).2 : Nat) : Int), true) ∧ impl_CountTrees.f ((two a b c).1 : Nat) ((two a b c).2 : Nat) = some (((N false (two a b c).1 (two a b c).2 : Nat) : Int), true)
      ∧ ((N false (one a b c).1 (one a b c).2 : Nat) : Int) * ((N false (two a b c).1 (two a b c).2 : Nat) : Int) = ((term false a b c : Nat) : Int) := by
  have hp : a * b ≠ 1 := by
    intro e
    have h := mul_one_both e
    rw [h.1, h.2] at hc
    simp [cutsN] at hc
  obtain ⟨⟨o1, o2, t1, t2⟩, _⟩ := parts hc ha.1 hb.1
  have le := sum_ge (List.mem_map_of_mem (f := term false a b) hc)
  rw [← N_rec false ha.1 hb.1 hp, term_eq] at le
  have p1 := N_pos false _ _ _ (Nat.le_refl _) o1 o2
  have p2 := N_pos false _ _ _ (Nat.le_refl _) t1 t2
  have le1 := Nat.le_trans (Nat.le_mul_of_pos_right _ p2) le
  have le2 := Nat.le_trans (Nat.le_mul_of_pos_left _ p1) le
  have hm := mem_cutsN.mp hc
  have bo : okB ((one a b c).1 : Nat) ((one a b c).2 : Nat) ∧ okB ((two a b c).1 : Nat) ((two a b c).2 : Nat) := by
    obtain ⟨d, k⟩ := c
    cases d <;> simp [one, two] at hm o1 o2 t1 t2 ⊢ <;> (unfold okB; omega)
  refine ⟨?_, ?_, ?_⟩
  · rw [counted_trees, if_pos ⟨bo.1, by rw [cnt_of (by omega)]; omega⟩, cnt_of (by omega)]
  · rw [counted_trees, if_pos ⟨bo.2, by rw [cnt_of (by omega)]; omega⟩, cnt_of (by omega)]
  · rw [term_eq]; exact (Int.natCast_mul _ _).symm

theorem break_down {a b m : Nat} (ha : 1 ≤ a ∧ a ≤ 12) (hb : 1 ≤ b ∧ b ≤ 12) (hm : 1 ≤ m) : impl_BreakBar.f a b true m = some (if m < a then ((m : Int), (b : Int), ((a - m : Nat) : Int), (b : Int), true) else (0, 0, 0, 0, false)) := by
  have hok : okB (a : Int) (b : Int) := by unfold okB; omega
  have w1 : wrap64 ((a : Int) - 1) = (a : Int) - 1 := by unfold wrap64; omega
  unfold impl_BreakBar.f impl_Bar_broken.f impl_within.f
  rw [isBar_eq, if_pos rfl, w1, if_pos (by omega)]
  by_cases h : m < a
  · have w2 : wrap64 ((a : Int) - m) = ((a - m : Nat) : Int) := by unfold wrap64; omega
    simp [hok, w2, h]; omega
  · simp [hok, h, show ¬ ((m : Int) ≤ (a : Int) - 1) by omega]
theorem break_across {a b m : Nat} (ha : 1 ≤ a ∧ a ≤ 12) (hb : 1 ≤ b ∧ b ≤ 12) (hm : 1 ≤ m) : impl_BreakBar.f a b false m = some (if m < b then ((a : Int), (m : Int), (a : Int), ((b - m : Nat) : Int), true) else (0, 0, 0, 0, false)) := by
  have hok : okB (a : Int) (b : Int) := by unfold okB; omega
  have w1 : wrap64 ((b : Int) - 1) = (b : Int) - 1 := by unfold wrap64; omega
  unfold impl_BreakBar.f impl_Bar_broken.f impl_within.f
  rw [isBar_eq, if_neg (by simp), w1, if_pos (by omega)]
  by_cases h : m < b
  · have w2 : wrap64 ((b : Int) - m) = ((b - m : Nat) : Int) := by unfold wrap64; omega
    simp [hok, w2, h]; omega
  · simp [hok, h, show ¬ ((m : Int) ≤ (b : Int) - 1) by omega]
theorem turn_eq {W H : Int} (h : okB W H) : impl_TurnBar.f W H = some (H, W, true) := by
  unfold impl_TurnBar.f; rw [isBar_eq]; simp [h]
theorem isBar_true {W H : Int} (h : okB W H) : impl_IsBar.f W H = some true := by
  unfold impl_IsBar.f; rw [isBar_eq]; simp [h]
theorem trees_turned {a b : Nat} (ha : 1 ≤ a ∧ a ≤ 12) (hb : 1 ≤ b ∧ b ≤ 12) (hN : N false a b ≤ 1000000000000000) : impl_CountTrees.f b a = some (((N false a b : Nat) : Int), true) := by
  have e : N false b a = N false a b := turned _ _ _ (Nat.le_refl _) ha.1 hb.1
  have hok : okB (b : Int) (a : Int) := by unfold okB; omega
  rw [counted_trees, if_pos ⟨hok, by rw [cnt_of (by omega), e]; omega⟩, cnt_of (by omega), e]
end Go.Proofs.Ytkoplphcdkmilaa.All
end
section
namespace Go.Proofs.Ytkoplphcdkmilaa.All
open Go.RowKit Go.Proofs.YtkoplphcdkmilaaW.PrintWords Go.Proofs.YtkoplphcdkmilaaW.PrintLast Go.Proofs.YtkoplphcdkmilaaW.PrintMore GBar PCount PImpl PEat
set_option linter.unusedVariables false

theorem okB_nat {a b : Nat} (ha : 1 ≤ a ∧ a ≤ 12) (hb : 1 ≤ b ∧ b ≤ 12) : okB (a : Int) (b : Int) := by unfold okB; omega
theorem okB_of {W H : Int} (h : okB W H) : ∃ a b : Nat, W = a ∧ H = b ∧ (1 ≤ a ∧ a ≤ 12) ∧ (1 ≤ b ∧ b ≤ 12) := by
  obtain ⟨h1, h2⟩ := h
  exact ⟨W.toNat, H.toNat, by omega, by omega, by omega, by omega⟩
theorem cast_mul (a b : Nat) : (a : Int) * (b : Int) = ((a * b : Nat) : Int) := (Int.natCast_mul a b).symm

theorem least_eq {a b s : Nat} (ha : 1 ≤ a ∧ a ≤ 12) (hb : 1 ≤ b ∧ b ≤ 12) (hs : s ≤ a * b) : impl_LeastToEat.f a b s = some (E a b s, true) := by
  unfold impl_LeastToEat.f
  rw [if_pos ⟨okB_nat ha hb, by omega, by rw [cast_mul]; omega⟩]
  simp
theorem least_not_eq {W H q : Int} (h : ¬ (okB W H ∧ 0 ≤ q ∧ q ≤ W * H)) : impl_LeastToEat.f W H q = some (0, false) := by
  unfold impl_LeastToEat.f; rw [if_neg h]

theorem cheap_facts {W H ch le : Int} (h : impl_CheapestToEat.f W H = some (ch, le, true)) : ∃ a b g : Nat, W = a ∧ H = b ∧ (1 ≤ a ∧ a ≤ 12) ∧ (1 ≤ b ∧ b ≤ 12) ∧ ch = g ∧ 1 ≤ g ∧ g < a * b ∧ 1 ≤ le ∧ impl_LeastToEat.f a b g = some (le, true) := by
  unfold impl_CheapestToEat.f at h
  have h := Option.some.inj h
  by_cases hc : okB W H ∧ W * H ≠ 1
  · rw [if_pos hc] at h
    obtain ⟨a, b, rfl, rfl, ha, hb⟩ := okB_of hc.1
    have hp : 1 < a * b := by
      have h1 := hc.2
      rw [cast_mul] at h1
      have h2 : 1 ≤ a * b := Nat.mul_pos ha.1 hb.1
      omega
    simp only [Int.toNat_natCast] at h
    obtain ⟨g, g1, g2, ge, _, _⟩ := cheap_eq ha hb hp
    rw [ge] at h
    obtain ⟨rfl, h2⟩ := Prod.mk.inj h
    obtain ⟨rfl, _⟩ := Prod.mk.inj h2
    exact ⟨a, b, g, rfl, rfl, ha, hb, rfl, g1, g2, E_pos ha hb (by omega) g2, least_eq ha hb (by omega)⟩
  · rw [if_neg hc] at h
    have := (Prod.mk.inj (Prod.mk.inj h).2).2
    simp at this

theorem eat_facts {U V q cost : Int} (h : impl_LeastToEat.f U V q = some (cost, true)) : ∃ u v s : Nat, U = u ∧ V = v ∧ q = s ∧ (1 ≤ u ∧ u ≤ 12) ∧ (1 ≤ v ∧ v ≤ 12) ∧ s ≤ u * v ∧ cost = E u v s := by
  unfold impl_LeastToEat.f at h
  have h := Option.some.inj h
  by_cases hc : okB U V ∧ 0 ≤ q ∧ q ≤ U * V
  · rw [if_pos hc] at h
    obtain ⟨hk, q0, q1⟩ := hc
    obtain ⟨a, b, rfl, rfl, ha, hb⟩ := okB_of hk
    rw [cast_mul] at q1
    refine ⟨a, b, q.toNat, rfl, rfl, by omega, ha, hb, by omega, ?_⟩
    have := (Prod.mk.inj h).1
    simpa using this.symm
  · rw [if_neg hc] at h
    have := (Prod.mk.inj h).2
    simp at this

theorem eat_more {u v s : Nat} (hu : 1 ≤ u ∧ u ≤ 12) (hv : 1 ≤ v ∧ v ≤ 12) (hs : s ≤ u * v) :
    impl_LeastToEat.f u v ((u * v - s : Nat) : Int) = some (E u v s, true) ∧ impl_LeastToEat.f v u s = some (E u v s, true) ∧ impl_TurnBar.f u v = some ((v : Int), (u : Int), true)
      ∧ (0 < s ∧ s < u * v → 1 ≤ E u v s) ∧ (¬ (0 < s ∧ s < u * v) → E u v s = 0) ∧ 0 ≤ E u v s ∧ E u v s ≤ 20736 := by
  refine ⟨?_, ?_, turn_eq (okB_nat hu hv), fun h => E_pos hu hv h.1 h.2, fun h => E_end (by omega), (E_bound s hu hv).1, (E_bound s hu hv).2⟩
  · rw [least_eq hu hv (by omega), E_left hu.1 hv.1 hs]
  · rw [least_eq hv hu (by rw [Nat.mul_comm]; exact hs), E_turn s hu.1 hv.1]

theorem first_facts {u v s : Nat} (hu : 1 ≤ u ∧ u ≤ 12) (hv : 1 ≤ v ∧ v ≤ 12) {dn : Bool} {p : Int} {five : Bool} (h : impl_FirstToEat.f u v s = some (dn, p, five)) :
    five = decide (0 < s ∧ s < u * v) ∧ (five = true → (dn, p.toNat) ∈ cutsN u v ∧ p = (p.toNat : Int) ∧ SE u v (dn, p.toNat) s + price u v dn = E u v s) := by
  unfold impl_FirstToEat.f at h
  have h := Option.some.inj h
  by_cases hc : okB (u : Int) (v : Int) ∧ 0 < (s : Int) ∧ (s : Int) < (u : Int) * (v : Int)
  · rw [if_pos hc] at h
    obtain ⟨_, q0, q1⟩ := hc
    rw [cast_mul] at q1
    simp only [Int.toNat_natCast] at h
    obtain ⟨rfl, h2⟩ := Prod.mk.inj h
    obtain ⟨rfl, rfl⟩ := Prod.mk.inj h2
    obtain ⟨m1, m2⟩ := first_in hu.1 hv.1 (show 0 < s by omega) (show s < u * v by omega)
    exact ⟨(decide_eq_true ⟨by omega, by omega⟩).symm, fun _ => ⟨by simpa using m1, by simp, by simpa using m2⟩⟩
  · rw [if_neg hc] at h
    obtain ⟨rfl, h2⟩ := Prod.mk.inj h
    obtain ⟨rfl, rfl⟩ := Prod.mk.inj h2
    refine ⟨?_, fun h => by simp at h⟩
    rw [decide_eq_false]
    intro hh
    exact hc ⟨okB_nat hu hv, by omega, by rw [cast_mul]; omega⟩

theorem first_least {U V q : Int} {dn : Bool} {p cost : Int} {five seven : Bool} (h : impl_FirstToEat.f U V q = some (dn, p, five)) (k : impl_LeastToEat.f U V q = some (cost, seven)) : five = true → seven = true := by
  intro hf
  subst hf
  unfold impl_FirstToEat.f at h
  have h := Option.some.inj h
  by_cases hc : okB U V ∧ 0 < q ∧ q < U * V
  · unfold impl_LeastToEat.f at k
    have k := Option.some.inj k
    rw [if_pos ⟨hc.1, by omega, by omega⟩] at k
    exact (Prod.mk.inj k).2.symm
  · rw [if_neg hc] at h
    have := (Prod.mk.inj (Prod.mk.inj h).2).2
    simp at this

def SplitsTo (u v s : Nat) (c : Bool × Nat) (K : Nat) (x : Int) : Prop := ∃ i, i < K ∧ i ≤ s ∧ i ≤ sq (one u v c) ∧ s - i ≤ sq (two u v c) ∧ x = price u v c.1 + E (one u v c).1 (one u v c).2 i + E (two u v c).1 (two u v c).2 (s - i)
theorem splits_zero (u v s : Nat) (c : Bool × Nat) : LeastO (SplitsTo u v s c 0) (-1) := .inl ⟨rfl, fun x ⟨i, h, _⟩ => by omega⟩
theorem splits_none {u v s K : Nat} {c : Bool × Nat} {best : Int} (h : LeastO (SplitsTo u v s c K) best) (hn : ¬ (K ≤ s ∧ K ≤ sq (one u v c) ∧ s - K ≤ sq (two u v c))) : LeastO (SplitsTo u v s c (K + 1)) best :=
  h.congr fun x => ⟨fun ⟨i, h1, h2, h3, h4, h5⟩ => ⟨i, by
    by_cases e : i = K
    · subst e; exact absurd ⟨h2, h3, h4⟩ hn
    · omega, h2, h3, h4, h5⟩, fun ⟨i, h1, h2⟩ => ⟨i, by omega, h2⟩⟩
theorem splits_some {u v s K : Nat} {c : Bool × Nat} {best : Int} (h : LeastO (SplitsTo u v s c K) best) (hy : K ≤ s ∧ K ≤ sq (one u v c) ∧ s - K ≤ sq (two u v c)) (h0 : 0 ≤ price u v c.1 + E (one u v c).1 (one u v c).2 K + E (two u v c).1 (two u v c).2 (s - K)) :
    LeastO (SplitsTo u v s c (K + 1)) (less best (price u v c.1 + E (one u v c).1 (one u v c).2 K + E (two u v c).1 (two u v c).2 (s - K))) :=
  h.step h0 fun x => ⟨fun ⟨i, h1, h2, h3, h4, h5⟩ => by
    by_cases e : i = K
    · subst e; exact .inr h5
    · exact .inl ⟨i, by omega, h2, h3, h4, h5⟩, fun hx => by
    rcases hx with ⟨i, h1, h2⟩ | hx
    · exact ⟨i, by omega, h2⟩
    · exact ⟨K, by omega, hy.1, hy.2.1, hy.2.2, hx⟩⟩
theorem splits_full {u v s : Nat} {c : Bool × Nat} {best : Int} (hu : 1 ≤ u ∧ u ≤ 12) (hv : 1 ≤ v ∧ v ≤ 12) (hs : s ≤ u * v) (hc : c ∈ cutsN u v) (he : SE u v c s + price u v c.1 = E u v s) (h : LeastO (SplitsTo u v s c (s + 1)) best) : best = E u v s := by
  obtain ⟨m1, m2⟩ := SE_least hc hu.1 hv.1 hs
  refine h.full ⟨?_, fun x ⟨i, h1, h2, h3, h4, h5⟩ => ?_⟩
  · obtain ⟨i, h1, h2, h3, h4⟩ := m1
    exact ⟨i, by omega, h1, h2, h3, by omega⟩
  · have := m2 _ ⟨i, h2, h3, h4, rfl⟩
    omega
end Go.Proofs.Ytkoplphcdkmilaa.All
end
