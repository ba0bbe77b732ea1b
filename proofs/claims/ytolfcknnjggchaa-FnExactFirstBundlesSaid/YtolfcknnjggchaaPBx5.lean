-- WRITTEN BY A PROGRAM OF THIS SESSION (printplus.py) over the kit's print of the translation; Lean checks it.
import Derived.Test.YtolfcknnjggchaaPBx0
import Derived.Shelf.Abstract
import Derived.Test.YtolfcknnjggchaaGV
import Derived.Test.YtolfcknnjggchaaPBx1
namespace Go.Proofs.Ytolfcknnjggchaa.PB
open Go.RowKit Go.Proofs.YtolfcknnjggchaaW.PrintWords Go.Proofs.YtolfcknnjggchaaW.PrintLast Go.Proofs.YtolfcknnjggchaaW.PrintMore
attribute [local go_sem] max2_int min2_int max_two min_two max_three min_three max_four min_four   -- for this text's walks alone
set_option linter.unusedVariables false
set_option linter.unusedSimpArgs false

/-! ### spec_wrLeast: function 56 -/
mutual
def spec_wrLeast.l0 : Nat → Int → Int → Int → List Int → List Int → List Int → Int → Option (List Int × List Int)
  | 0, _, _, _, _, _, _, _ => none
  | k + 1, x0, x1, x2, x10, x11, x12, x13 => if x13 ≤ x0 then (if 0 ≤ x13 then (if x13 < (x12.length : Int) then (spec_wrLeast.l1 k x0 x1 x2 x10 x11 (x12.set (x13 : Int).toNat (-1)) x13 x1) else (none)) else (none)) else (some (x11, x12))
def spec_wrLeast.l1 : Nat → Int → Int → Int → List Int → List Int → List Int → Int → Int → Option (List Int × List Int)
  | 0, _, _, _, _, _, _, _, _ => none
  | k + 1, x0, x1, x2, x10, x11, x12, x13, x14 => if x14 ≤ x2 then (spec_wrLeast.j2 k x0 x1 x2 x10 x11 x12 x13 x14 (decide (x14 ≤ x13))) else (spec_wrLeast.j2 k x0 x1 x2 x10 x11 x12 x13 x14 false)
def spec_wrLeast.j2 : Nat → Int → Int → Int → List Int → List Int → List Int → Int → Int → Bool → Option (List Int × List Int)
  | 0, _, _, _, _, _, _, _, _, _ => none
  | k + 1, x0, x1, x2, x10, x11, x12, x13, x14, x41 => if x41 = true then (if 0 ≤ x14 then (if x14 < (x10.length : Int) then (if (rd x10 x14) = 0 then (spec_wrLeast.j3 k x0 x1 x2 x10 x11 x12 x13 x14 true) else (if 0 ≤ (wrap64 (x13 - x14)) then (if (wrap64 (x13 - x14)) < (x12.length : Int) then (spec_wrLeast.j3 k x0 x1 x2 x10 x11 x12 x13 x14 (decide ((rd x12 (wrap64 (x13 - x14))) < 0))) else (none)) else (none))) else (none)) else (none)) else (spec_wrLeast.l0 k x0 x1 x2 x10 x11 x12 (wrap64 (x13 + 1)))
def spec_wrLeast.j3 : Nat → Int → Int → Int → List Int → List Int → List Int → Int → Int → Bool → Option (List Int × List Int)
  | 0, _, _, _, _, _, _, _, _, _ => none
  | k + 1, x0, x1, x2, x10, x11, x12, x13, x14, x57 => if x57 = true then (spec_wrLeast.l1 k x0 x1 x2 x10 x11 x12 x13 (wrap64 (x14 + 1))) else (if 0 ≤ (wrap64 (x13 - x14)) then (if (wrap64 (x13 - x14)) < (x11.length : Int) then (if 0 ≤ x14 then (if x14 < (x10.length : Int) then (if (wrap64 (x13 - x14)) < (x12.length : Int) then (if 0 ≤ x13 then (if x13 < (x12.length : Int) then (if (rd x12 x13) < 0 then (if x13 < (x11.length : Int) then (spec_wrLeast.l1 k x0 x1 x2 x10 (x11.set (x13 : Int).toNat (wrap64 ((rd x11 (wrap64 (x13 - x14))) + (rd x10 x14)))) (x12.set (x13 : Int).toNat (wrap64 ((rd x12 (wrap64 (x13 - x14))) + 1))) x13 (wrap64 (x14 + 1))) else (none)) else (if x13 < (x11.length : Int) then (if (wrap64 ((rd x11 (wrap64 (x13 - x14))) + (rd x10 x14))) < (rd x11 x13) then (spec_wrLeast.l1 k x0 x1 x2 x10 (x11.set (x13 : Int).toNat (wrap64 ((rd x11 (wrap64 (x13 - x14))) + (rd x10 x14)))) (x12.set (x13 : Int).toNat (wrap64 ((rd x12 (wrap64 (x13 - x14))) + 1))) x13 (wrap64 (x14 + 1))) else (if (wrap64 ((rd x11 (wrap64 (x13 - x14))) + (rd x10 x14))) = (rd x11 x13) then (if (wrap64 ((rd x12 (wrap64 (x13 - x14))) + 1)) < (rd x12 x13) then (spec_wrLeast.l1 k x0 x1 x2 x10 (x11.set (x13 : Int).toNat (wrap64 ((rd x11 (wrap64 (x13 - x14))) + (rd x10 x14)))) (x12.set (x13 : Int).toNat (wrap64 ((rd x12 (wrap64 (x13 - x14))) + 1))) x13 (wrap64 (x14 + 1))) else (spec_wrLeast.l1 k x0 x1 x2 x10 x11 x12 x13 (wrap64 (x14 + 1)))) else (spec_wrLeast.l1 k x0 x1 x2 x10 x11 x12 x13 (wrap64 (x14 + 1))))) else (none))) else (none)) else (none)) else (none)) else (none)) else (none)) else (none)) else (none))
end
def spec_wrLeast.f (k : Nat) (a0 : Int) (a1 : Int) (a2 : Int) (a3 : Int) : Option (List Int × List Int) := (spec_wrSealed.f k a3).bind fun t191 => (if 0 ≤ (wrap64 (a0 + 1)) then (if (wrap64 (a0 + 1) : Int).toNat ≤ 35184372088832 then (spec_wrLeast.l0 k a0 a1 a2 t191 (List.replicate (wrap64 (a0 + 1) : Int).toNat 0) (List.replicate (wrap64 (a0 + 1) : Int).toNat 0) 1) else (none)) else (none))
theorem spec_wrLeast.mono_l : ∀ k, (∀ y0 y1 y2 y3 y4 y5 y6, LeO (spec_wrLeast.l0 k y0 y1 y2 y3 y4 y5 y6) (spec_wrLeast.l0 (k + 1) y0 y1 y2 y3 y4 y5 y6)) ∧ (∀ y0 y1 y2 y3 y4 y5 y6 y7, LeO (spec_wrLeast.l1 k y0 y1 y2 y3 y4 y5 y6 y7) (spec_wrLeast.l1 (k + 1) y0 y1 y2 y3 y4 y5 y6 y7)) ∧ (∀ y0 y1 y2 y3 y4 y5 y6 y7 y8, LeO (spec_wrLeast.j2 k y0 y1 y2 y3 y4 y5 y6 y7 y8) (spec_wrLeast.j2 (k + 1) y0 y1 y2 y3 y4 y5 y6 y7 y8)) ∧ (∀ y0 y1 y2 y3 y4 y5 y6 y7 y8, LeO (spec_wrLeast.j3 k y0 y1 y2 y3 y4 y5 y6 y7 y8) (spec_wrLeast.j3 (k + 1) y0 y1 y2 y3 y4 y5 y6 y7 y8))
  | 0 => ⟨fun _ _ _ _ _ _ _ r h => by simp [spec_wrLeast.l0] at h, fun _ _ _ _ _ _ _ _ r h => by simp [spec_wrLeast.l1] at h, fun _ _ _ _ _ _ _ _ _ r h => by simp [spec_wrLeast.j2] at h, fun _ _ _ _ _ _ _ _ _ r h => by simp [spec_wrLeast.j3] at h⟩
  | k + 1 => by
    obtain ⟨ih0, ih1, ih2, ih3⟩ := spec_wrLeast.mono_l k
    refine ⟨?_, ?_, ?_, ?_⟩
    · intro y0 y1 y2 y3 y4 y5 y6
      unfold spec_wrLeast.l0
      repeat' first
      | (with_reducible exact ih0 _ _ _ _ _ _ _)
      | (with_reducible exact ih1 _ _ _ _ _ _ _ _)
      | (with_reducible exact ih2 _ _ _ _ _ _ _ _ _)
      | (with_reducible exact ih3 _ _ _ _ _ _ _ _ _)
      | (with_reducible exact spec_wrSealed.mono _ _)
      | (with_reducible exact LeO.refl _)
      | (with_reducible exact LeO.none _)
      | (with_reducible refine LeO.ite ?_ ?_)
      | (with_reducible refine LeO.bind ?_ (fun _ => ?_))
      | exact ih0 _ _ _ _ _ _ _
      | exact ih1 _ _ _ _ _ _ _ _
      | exact ih2 _ _ _ _ _ _ _ _ _
      | exact ih3 _ _ _ _ _ _ _ _ _
      | exact spec_wrSealed.mono _ _
      | exact LeO.none _
      | refine LeO.ite ?_ ?_
      | refine LeO.bind ?_ (fun _ => ?_)
    · intro y0 y1 y2 y3 y4 y5 y6 y7
      unfold spec_wrLeast.l1
      repeat' first
      | (with_reducible exact ih0 _ _ _ _ _ _ _)
      | (with_reducible exact ih1 _ _ _ _ _ _ _ _)
      | (with_reducible exact ih2 _ _ _ _ _ _ _ _ _)
      | (with_reducible exact ih3 _ _ _ _ _ _ _ _ _)
      | (with_reducible exact spec_wrSealed.mono _ _)
      | (with_reducible exact LeO.refl _)
      | (with_reducible exact LeO.none _)
      | (with_reducible refine LeO.ite ?_ ?_)
      | (with_reducible refine LeO.bind ?_ (fun _ => ?_))
      | exact ih0 _ _ _ _ _ _ _
      | exact ih1 _ _ _ _ _ _ _ _
      | exact ih2 _ _ _ _ _ _ _ _ _
      | exact ih3 _ _ _ _ _ _ _ _ _
      | exact spec_wrSealed.mono _ _
      | exact LeO.none _
      | refine LeO.ite ?_ ?_
      | refine LeO.bind ?_ (fun _ => ?_)
    · intro y0 y1 y2 y3 y4 y5 y6 y7 y8
      unfold spec_wrLeast.j2
      repeat' first
      | (with_reducible exact ih0 _ _ _ _ _ _ _)
      | (with_reducible exact ih1 _ _ _ _ _ _ _ _)
      | (with_reducible exact ih2 _ _ _ _ _ _ _ _ _)
      | (with_reducible exact ih3 _ _ _ _ _ _ _ _ _)
      | (with_reducible exact spec_wrSealed.mono _ _)
      | (with_reducible exact LeO.refl _)
      | (with_reducible exact LeO.none _)
      | (with_reducible refine LeO.ite ?_ ?_)
      | (with_reducible refine LeO.bind ?_ (fun _ => ?_))
      | exact ih0 _ _ _ _ _ _ _
      | exact ih1 _ _ _ _ _ _ _ _
      | exact ih2 _ _ _ _ _ _ _ _ _
      | exact ih3 _ _ _ _ _ _ _ _ _
      | exact spec_wrSealed.mono _ _
      | exact LeO.none _
      | refine LeO.ite ?_ ?_
      | refine LeO.bind ?_ (fun _ => ?_)
    · intro y0 y1 y2 y3 y4 y5 y6 y7 y8
      unfold spec_wrLeast.j3
      repeat' first
      | (with_reducible exact ih0 _ _ _ _ _ _ _)
      | (with_reducible exact ih1 _ _ _ _ _ _ _ _)
      | (with_reducible exact ih2 _ _ _ _ _ _ _ _ _)
      | (with_reducible exact ih3 _ _ _ _ _ _ _ _ _)
      | (with_reducible exact spec_wrSealed.mono _ _)
      | (with_reducible exact LeO.refl _)
      | (with_reducible exact LeO.none _)
      | (with_reducible refine LeO.ite ?_ ?_)
      | (with_reducible refine LeO.bind ?_ (fun _ => ?_))
      | exact ih0 _ _ _ _ _ _ _
      | exact ih1 _ _ _ _ _ _ _ _
      | exact ih2 _ _ _ _ _ _ _ _ _
      | exact ih3 _ _ _ _ _ _ _ _ _
      | exact spec_wrSealed.mono _ _
      | exact LeO.none _
      | refine LeO.ite ?_ ?_
      | refine LeO.bind ?_ (fun _ => ?_)
theorem spec_wrLeast.mono : ∀ a0 a1 a2 a3 k, LeO (spec_wrLeast.f k a0 a1 a2 a3) (spec_wrLeast.f (k + 1) a0 a1 a2 a3) := by
  intro a0 a1 a2 a3 k
  obtain ⟨ih0, ih1, ih2, ih3⟩ := spec_wrLeast.mono_l k
  unfold spec_wrLeast.f
  repeat' first
      | (with_reducible exact ih0 _ _ _ _ _ _ _)
      | (with_reducible exact ih1 _ _ _ _ _ _ _ _)
      | (with_reducible exact ih2 _ _ _ _ _ _ _ _ _)
      | (with_reducible exact ih3 _ _ _ _ _ _ _ _ _)
      | (with_reducible exact spec_wrSealed.mono _ _)
      | (with_reducible exact LeO.refl _)
      | (with_reducible exact LeO.none _)
      | (with_reducible refine LeO.ite ?_ ?_)
      | (with_reducible refine LeO.bind ?_ (fun _ => ?_))
      | exact ih0 _ _ _ _ _ _ _
      | exact ih1 _ _ _ _ _ _ _ _
      | exact ih2 _ _ _ _ _ _ _ _ _
      | exact ih3 _ _ _ _ _ _ _ _ _
      | exact spec_wrSealed.mono _ _
      | exact LeO.none _
      | refine LeO.ite ?_ ?_
      | refine LeO.bind ?_ (fun _ => ?_)
set_option maxHeartbeats 8000000 in
set_option maxRecDepth 100000 in
theorem spec_wrLeast.calls (k : Nat) (a0 : Int) (a1 : Int) (a2 : Int) (a3 : Int) (r1 : List Int) (r2 : List Int) (w : World) (h : spec_wrLeast.f k a0 a1 a2 a3 = some (r1, r2)) :
    Calls Try.prog 56 #[.int .i64 a0, .int .i64 a1, .int .i64 a2, .int .i64 a3] w fun e w' => ∃ v0_ v1_ : Value, e = .returned (.tuple #[v0_, v1_]) ∧ Kd.R (Kd.int .i64) 3 w' w.heap.size (fun k_ => some k_ ≠ (v1_ : Value).ownBlock) v0_ r1 ∧ Kd.R (Kd.int .i64) 3 w' w.heap.size (fun k_ => some k_ ≠ (v0_ : Value).ownBlock) v1_ r2 ∧ Below w.heap.size w w' := by
  have HB := Aside0.mk (Below.refl w.heap.size w)
  have H : ((spec_wrSealed.f k a3).bind fun t191 => (if 0 ≤ (wrap64 (a0 + 1)) then (if (wrap64 (a0 + 1) : Int).toNat ≤ 35184372088832 then (spec_wrLeast.l0 k a0 a1 a2 t191 (List.replicate (wrap64 (a0 + 1) : Int).toNat 0) (List.replicate (wrap64 (a0 + 1) : Int).toNat 0) 1) else (none)) else (none))) = some (r1, r2) := h
  clear h
  replace H := Option.bind_eq_some_iff.mp H
  obtain ⟨t191, A50, H⟩ := H
  replace H : (if 0 ≤ (wrap64 (a0 + 1)) then (if (wrap64 (a0 + 1) : Int).toNat ≤ 35184372088832 then (spec_wrLeast.l0 k a0 a1 a2 t191 (List.replicate (wrap64 (a0 + 1) : Int).toNat 0) (List.replicate (wrap64 (a0 + 1) : Int).toNat 0) 1) else (none)) else (none)) = some (r1, r2) := H
  have A5 := Aside0.mk A50
  clear A50
  obtain ⟨ji6, hji6⟩ : ∃ j_ : Int, (wrap64 (a0 + 1)) = j_ := ⟨_, rfl⟩
  replace H : (if 0 ≤ (ji6) then (if (ji6 : Int).toNat ≤ 35184372088832 then (spec_wrLeast.l0 k a0 a1 a2 t191 (List.replicate (ji6 : Int).toNat 0) (List.replicate (ji6 : Int).toNat 0) 1) else (none)) else (none)) = some (r1, r2) := by first | (rw [hji6] at H; exact H) | (simp only [hji6] at H ⊢; exact H)
  (try rw [hji6] at A5)
  have hji6w : (IntKind.i64.wrap (a0 + 1)) = ji6 := (i64_w _).trans hji6
  by_cases c7 : 0 ≤ (ji6)
  · rw [if_pos c7] at H
    have c7b0 := eq_true c7
    have c7b1 : decide (0 ≤ (ji6)) = true := decide_eq_true c7
    clear c7
    by_cases c8 : (ji6 : Int).toNat ≤ 35184372088832
    · rw [if_pos c8] at H
      have c8b0 := eq_true c8
      have c8b1 : decide ((ji6 : Int).toNat ≤ 35184372088832) = true := decide_eq_true c8
      clear c8
      obtain ⟨y194, hy194⟩ : ∃ y_ : List Int, y_ = (List.replicate (ji6 : Int).toNat 0) := ⟨_, rfl⟩
      replace H : (spec_wrLeast.l0 k a0 a1 a2 t191 y194 (List.replicate (ji6 : Int).toNat 0) 1) = some (r1, r2) := by first | (rw [hy194]; with_reducible exact H) | (have H2_ := (Option.bind_some _ _).symm.trans H; rw [hy194]; with_reducible exact H2_) | (have H2_ := (Option.bind_some _ _).symm.trans H; with_reducible exact H2_) | with_reducible exact H | (rw [hy194]; exact H) | exact H
      have Ny194 := Aside0.mk hy194
      clear hy194
      obtain ⟨y197, hy197⟩ : ∃ y_ : List Int, y_ = (List.replicate (ji6 : Int).toNat 0) := ⟨_, rfl⟩
      replace H : (spec_wrLeast.l0 k a0 a1 a2 t191 y194 y197 1) = some (r1, r2) := by first | (rw [hy197]; with_reducible exact H) | (have H2_ := (Option.bind_some _ _).symm.trans H; rw [hy197]; with_reducible exact H2_) | (have H2_ := (Option.bind_some _ _).symm.trans H; with_reducible exact H2_) | with_reducible exact H | (rw [hy197]; exact H) | exact H
      have Ny197 := Aside0.mk hy197
      clear hy197
      have H' := Aside0.mk H
      clear H
      go_enter Try.func56, Try.ntmps56
      go_wp2_with (first | (go_at_call 51; (with_reducible refine (spec_wrSealed.calls k a3 t191 _ A5.out).mono ?_); rintro e w9 ⟨v192, rfl, ho0, hb⟩; have n0_ := Aside0.mk (Kd.R_lower ho0 (below_size (by repeat (first | (with_reducible first | exact HB.out | apply below_alloc | apply pw_below_drewN | apply below_drew1) | exact HB.out)))); have n1_ := Aside0.mk (below_step (by repeat (first | (with_reducible first | exact HB.out | apply below_alloc | apply pw_below_drewN | apply below_drew1) | exact HB.out)) hb); clear HB; have HO193 := n0_; have HB := n1_; clear n0_ n1_; (try clear hb); (try clear hb2); (try clear hk); (try clear hi); (try clear ho0)) | ((with_reducible refine gate_dst (N := 21) rfl ?_); refine Kd.R_make (Kd.int .i64) _ 3 rfl (N := 21) rfl 37 _ _ rfl ji6 rfl rfl Try.underlying37 (.int .i64 0) 8 info3 rfl (by decide) (by omega) 0 (ok := fun _ => True) (okp := fun _ => True) rfl (fun _ hk => hk) trivial (of_decide_eq_true (by first | (with_reducible assumption) | assumption)) (Nat.le_trans (Nat.mul_le_mul_right _ (of_decide_eq_true (by first | (with_reducible assumption) | assumption) : ji6.toNat ≤ 35184372088832)) (by omega)) (Below.refl _ _) (Nat.le_refl _) ?_; intro v195 w10 ho11 hb hg_ hnew_; clear hg_ hnew_; (first | rw [← Ny194.out] at ho11 | (simp only [Int.reduceToNat] at ho11; rw [← Ny194.out] at ho11)); have n0_ := Aside0.mk (Kd.R_elder' (by (with_reducible repeat (first | apply Kd.R_alloc | apply Kd.R_drewN | apply Kd.R_drew)); exact HO193.out) (Kd.R_base ho11) hb); have n1_ := Aside0.mk (Kd.R_lower (Kd.R_new' ho11 (Kd.R_lt (by (with_reducible repeat (first | apply Kd.R_alloc | apply Kd.R_drewN | apply Kd.R_drew)); exact HO193.out))) (below_size (by repeat (first | (with_reducible first | exact HB.out | apply below_alloc | apply pw_below_drewN | apply below_drew1) | exact HB.out)))); have n2_ := Aside0.mk (below_step (by repeat (first | (with_reducible first | exact HB.out | apply below_alloc | apply pw_below_drewN | apply below_drew1) | exact HB.out)) hb); clear HO193; clear HB; have HO193 := n0_; have HO196 := n1_; have HB := n2_; clear n0_ n1_ n2_; clear hb ho11) | ((with_reducible refine gate_dst (N := 24) rfl ?_); refine Kd.R_make (Kd.int .i64) _ 3 rfl (N := 24) rfl 37 _ _ rfl ji6 rfl rfl Try.underlying37 (.int .i64 0) 8 info3 rfl (by decide) (by omega) 0 (ok := fun _ => True) (okp := fun _ => True) rfl (fun _ hk => hk) trivial (of_decide_eq_true (by first | (with_reducible assumption) | assumption)) (Nat.le_trans (Nat.mul_le_mul_right _ (of_decide_eq_true (by first | (with_reducible assumption) | assumption) : ji6.toNat ≤ 35184372088832)) (by omega)) (Below.refl _ _) (Nat.le_refl _) ?_; intro v198 w12 ho13 hb hg_ hnew_; clear hg_ hnew_; (first | rw [← Ny197.out] at ho13 | (simp only [Int.reduceToNat] at ho13; rw [← Ny197.out] at ho13)); have n0_ := Aside0.mk (Kd.R_elder' (by (with_reducible repeat (first | apply Kd.R_alloc | apply Kd.R_drewN | apply Kd.R_drew)); exact HO193.out) (Kd.R_base ho13) hb); have n1_ := Aside0.mk (Kd.R_elder' (by (with_reducible repeat (first | apply Kd.R_alloc | apply Kd.R_drewN | apply Kd.R_drew)); exact HO196.out) (Kd.R_base ho13) hb); have n2_ := Aside0.mk (Kd.R_lower (Kd.R_new' (Kd.R_new' ho13 (Kd.R_lt (by (with_reducible repeat (first | apply Kd.R_alloc | apply Kd.R_drewN | apply Kd.R_drew)); exact HO193.out))) (Kd.R_lt (by (with_reducible repeat (first | apply Kd.R_alloc | apply Kd.R_drewN | apply Kd.R_drew)); exact HO196.out))) (below_size (by repeat (first | (with_reducible first | exact HB.out | apply below_alloc | apply pw_below_drewN | apply below_drew1) | exact HB.out)))); have n3_ := Aside0.mk (below_step (by repeat (first | (with_reducible first | exact HB.out | apply below_alloc | apply pw_below_drewN | apply below_drew1) | exact HB.out)) hb); clear HO193; clear HO196; clear HB; have HO193 := n0_; have HO196 := n1_; have HO199 := n2_; have HB := n3_; clear n0_ n1_ n2_ n3_; clear hb ho13))
      repeat (go_quiet (first | (go_at_call 51; (with_reducible refine (spec_wrSealed.calls k a3 t191 _ A5.out).mono ?_); rintro e w9 ⟨v192, rfl, ho0, hb⟩; have n0_ := Aside0.mk (Kd.R_lower ho0 (below_size (by repeat (first | (with_reducible first | exact HB.out | apply below_alloc | apply pw_below_drewN | apply below_drew1) | exact HB.out)))); have n1_ := Aside0.mk (below_step (by repeat (first | (with_reducible first | exact HB.out | apply below_alloc | apply pw_below_drewN | apply below_drew1) | exact HB.out)) hb); clear HB; have HO193 := n0_; have HB := n1_; clear n0_ n1_; (try clear hb); (try clear hb2); (try clear hk); (try clear hi); (try clear ho0)) | ((with_reducible refine gate_dst (N := 21) rfl ?_); refine Kd.R_make (Kd.int .i64) _ 3 rfl (N := 21) rfl 37 _ _ rfl ji6 rfl rfl Try.underlying37 (.int .i64 0) 8 info3 rfl (by decide) (by omega) 0 (ok := fun _ => True) (okp := fun _ => True) rfl (fun _ hk => hk) trivial (of_decide_eq_true (by first | (with_reducible assumption) | assumption)) (Nat.le_trans (Nat.mul_le_mul_right _ (of_decide_eq_true (by first | (with_reducible assumption) | assumption) : ji6.toNat ≤ 35184372088832)) (by omega)) (Below.refl _ _) (Nat.le_refl _) ?_; intro v195 w10 ho11 hb hg_ hnew_; clear hg_ hnew_; (first | rw [← Ny194.out] at ho11 | (simp only [Int.reduceToNat] at ho11; rw [← Ny194.out] at ho11)); have n0_ := Aside0.mk (Kd.R_elder' (by (with_reducible repeat (first | apply Kd.R_alloc | apply Kd.R_drewN | apply Kd.R_drew)); exact HO193.out) (Kd.R_base ho11) hb); have n1_ := Aside0.mk (Kd.R_lower (Kd.R_new' ho11 (Kd.R_lt (by (with_reducible repeat (first | apply Kd.R_alloc | apply Kd.R_drewN | apply Kd.R_drew)); exact HO193.out))) (below_size (by repeat (first | (with_reducible first | exact HB.out | apply below_alloc | apply pw_below_drewN | apply below_drew1) | exact HB.out)))); have n2_ := Aside0.mk (below_step (by repeat (first | (with_reducible first | exact HB.out | apply below_alloc | apply pw_below_drewN | apply below_drew1) | exact HB.out)) hb); clear HO193; clear HB; have HO193 := n0_; have HO196 := n1_; have HB := n2_; clear n0_ n1_ n2_; clear hb ho11) | ((with_reducible refine gate_dst (N := 24) rfl ?_); refine Kd.R_make (Kd.int .i64) _ 3 rfl (N := 24) rfl 37 _ _ rfl ji6 rfl rfl Try.underlying37 (.int .i64 0) 8 info3 rfl (by decide) (by omega) 0 (ok := fun _ => True) (okp := fun _ => True) rfl (fun _ hk => hk) trivial (of_decide_eq_true (by first | (with_reducible assumption) | assumption)) (Nat.le_trans (Nat.mul_le_mul_right _ (of_decide_eq_true (by first | (with_reducible assumption) | assumption) : ji6.toNat ≤ 35184372088832)) (by omega)) (Below.refl _ _) (Nat.le_refl _) ?_; intro v198 w12 ho13 hb hg_ hnew_; clear hg_ hnew_; (first | rw [← Ny197.out] at ho13 | (simp only [Int.reduceToNat] at ho13; rw [← Ny197.out] at ho13)); have n0_ := Aside0.mk (Kd.R_elder' (by (with_reducible repeat (first | apply Kd.R_alloc | apply Kd.R_drewN | apply Kd.R_drew)); exact HO193.out) (Kd.R_base ho13) hb); have n1_ := Aside0.mk (Kd.R_elder' (by (with_reducible repeat (first | apply Kd.R_alloc | apply Kd.R_drewN | apply Kd.R_drew)); exact HO196.out) (Kd.R_base ho13) hb); have n2_ := Aside0.mk (Kd.R_lower (Kd.R_new' (Kd.R_new' ho13 (Kd.R_lt (by (with_reducible repeat (first | apply Kd.R_alloc | apply Kd.R_drewN | apply Kd.R_drew)); exact HO193.out))) (Kd.R_lt (by (with_reducible repeat (first | apply Kd.R_alloc | apply Kd.R_drewN | apply Kd.R_drew)); exact HO196.out))) (below_size (by repeat (first | (with_reducible first | exact HB.out | apply below_alloc | apply pw_below_drewN | apply below_drew1) | exact HB.out)))); have n3_ := Aside0.mk (below_step (by repeat (first | (with_reducible first | exact HB.out | apply below_alloc | apply pw_below_drewN | apply below_drew1) | exact HB.out)) hb); clear HO193; clear HO196; clear HB; have HO193 := n0_; have HO196 := n1_; have HO199 := n2_; have HB := n3_; clear n0_ n1_ n2_ n3_; clear hb ho13)); try go_wp2_with (first | (go_at_call 51; (with_reducible refine (spec_wrSealed.calls k a3 t191 _ A5.out).mono ?_); rintro e w9 ⟨v192, rfl, ho0, hb⟩; have n0_ := Aside0.mk (Kd.R_lower ho0 (below_size (by repeat (first | (with_reducible first | exact HB.out | apply below_alloc | apply pw_below_drewN | apply below_drew1) | exact HB.out)))); have n1_ := Aside0.mk (below_step (by repeat (first | (with_reducible first | exact HB.out | apply below_alloc | apply pw_below_drewN | apply below_drew1) | exact HB.out)) hb); clear HB; have HO193 := n0_; have HB := n1_; clear n0_ n1_; (try clear hb); (try clear hb2); (try clear hk); (try clear hi); (try clear ho0)) | ((with_reducible refine gate_dst (N := 21) rfl ?_); refine Kd.R_make (Kd.int .i64) _ 3 rfl (N := 21) rfl 37 _ _ rfl ji6 rfl rfl Try.underlying37 (.int .i64 0) 8 info3 rfl (by decide) (by omega) 0 (ok := fun _ => True) (okp := fun _ => True) rfl (fun _ hk => hk) trivial (of_decide_eq_true (by first | (with_reducible assumption) | assumption)) (Nat.le_trans (Nat.mul_le_mul_right _ (of_decide_eq_true (by first | (with_reducible assumption) | assumption) : ji6.toNat ≤ 35184372088832)) (by omega)) (Below.refl _ _) (Nat.le_refl _) ?_; intro v195 w10 ho11 hb hg_ hnew_; clear hg_ hnew_; (first | rw [← Ny194.out] at ho11 | (simp only [Int.reduceToNat] at ho11; rw [← Ny194.out] at ho11)); have n0_ := Aside0.mk (Kd.R_elder' (by (with_reducible repeat (first | apply Kd.R_alloc | apply Kd.R_drewN | apply Kd.R_drew)); exact HO193.out) (Kd.R_base ho11) hb); have n1_ := Aside0.mk (Kd.R_lower (Kd.R_new' ho11 (Kd.R_lt (by (with_reducible repeat (first | apply Kd.R_alloc | apply Kd.R_drewN | apply Kd.R_drew)); exact HO193.out))) (below_size (by repeat (first | (with_reducible first | exact HB.out | apply below_alloc | apply pw_below_drewN | apply below_drew1) | exact HB.out)))); have n2_ := Aside0.mk (below_step (by repeat (first | (with_reducible first | exact HB.out | apply below_alloc | apply pw_below_drewN | apply below_drew1) | exact HB.out)) hb); clear HO193; clear HB; have HO193 := n0_; have HO196 := n1_; have HB := n2_; clear n0_ n1_ n2_; clear hb ho11) | ((with_reducible refine gate_dst (N := 24) rfl ?_); refine Kd.R_make (Kd.int .i64) _ 3 rfl (N := 24) rfl 37 _ _ rfl ji6 rfl rfl Try.underlying37 (.int .i64 0) 8 info3 rfl (by decide) (by omega) 0 (ok := fun _ => True) (okp := fun _ => True) rfl (fun _ hk => hk) trivial (of_decide_eq_true (by first | (with_reducible assumption) | assumption)) (Nat.le_trans (Nat.mul_le_mul_right _ (of_decide_eq_true (by first | (with_reducible assumption) | assumption) : ji6.toNat ≤ 35184372088832)) (by omega)) (Below.refl _ _) (Nat.le_refl _) ?_; intro v198 w12 ho13 hb hg_ hnew_; clear hg_ hnew_; (first | rw [← Ny197.out] at ho13 | (simp only [Int.reduceToNat] at ho13; rw [← Ny197.out] at ho13)); have n0_ := Aside0.mk (Kd.R_elder' (by (with_reducible repeat (first | apply Kd.R_alloc | apply Kd.R_drewN | apply Kd.R_drew)); exact HO193.out) (Kd.R_base ho13) hb); have n1_ := Aside0.mk (Kd.R_elder' (by (with_reducible repeat (first | apply Kd.R_alloc | apply Kd.R_drewN | apply Kd.R_drew)); exact HO196.out) (Kd.R_base ho13) hb); have n2_ := Aside0.mk (Kd.R_lower (Kd.R_new' (Kd.R_new' ho13 (Kd.R_lt (by (with_reducible repeat (first | apply Kd.R_alloc | apply Kd.R_drewN | apply Kd.R_drew)); exact HO193.out))) (Kd.R_lt (by (with_reducible repeat (first | apply Kd.R_alloc | apply Kd.R_drewN | apply Kd.R_drew)); exact HO196.out))) (below_size (by repeat (first | (with_reducible first | exact HB.out | apply below_alloc | apply pw_below_drewN | apply below_drew1) | exact HB.out)))); have n3_ := Aside0.mk (below_step (by repeat (first | (with_reducible first | exact HB.out | apply below_alloc | apply pw_below_drewN | apply below_drew1) | exact HB.out)) hb); clear HO193; clear HO196; clear HB; have HO193 := n0_; have HO196 := n1_; have HO199 := n2_; have HB := n3_; clear n0_ n1_ n2_ n3_; clear hb ho13)))
      go_loopg [13] k (fun kq v13 w' => ∃ (x11_1 : List Int) (x12_1 : List Int) (x13_1 : Int), v13 = .int .i64 x13_1 ∧ Aside0 (spec_wrLeast.l0 kq a0 a1 a2 t191 x11_1 x12_1 x13_1 = some (r1, r2)) ∧ Aside0 (kq ≤ k) ∧ Aside0 (Kd.R (Kd.int .i64) 3 w' w.heap.size (fun k_ => some k_ ≠ (v195 : Value).ownBlock ∧ some k_ ≠ (v198 : Value).ownBlock) v192 t191) ∧ Aside0 (Kd.R (Kd.int .i64) 3 w' w.heap.size (fun k_ => some k_ ≠ (v192 : Value).ownBlock ∧ some k_ ≠ (v198 : Value).ownBlock) v195 x11_1) ∧ Aside0 (Kd.R (Kd.int .i64) 3 w' w.heap.size (fun k_ => some k_ ≠ (v192 : Value).ownBlock ∧ some k_ ≠ (v195 : Value).ownBlock) v198 x12_1) ∧ Aside0 (Below w.heap.size w w'))
      case atStart => exact ⟨(y194), (y197), (1), (by first | rfl | (simp; done) | (simp [*]; done)), H', ⟨Nat.le_refl _⟩, ⟨by (with_reducible repeat (first | apply Kd.R_alloc | apply Kd.R_drewN | apply Kd.R_drew)); exact Kd.R_mono HO193.out (fun _ hk => ⟨hk.1.2, hk.2⟩)⟩, ⟨by (with_reducible repeat (first | apply Kd.R_alloc | apply Kd.R_drewN | apply Kd.R_drew)); exact Kd.R_mono HO196.out (fun _ hk => ⟨hk.1.2, hk.2⟩)⟩, ⟨by (with_reducible repeat (first | apply Kd.R_alloc | apply Kd.R_drewN | apply Kd.R_drew)); exact Kd.R_mono HO199.out (fun _ hk => ⟨hk.1.2, hk.2⟩)⟩, ⟨by repeat (first | (with_reducible first | exact HB.out | apply below_alloc | apply pw_below_drewN | apply below_drew1) | exact HB.out)⟩⟩
      case round =>
        clear H'
        try clear p2
        try clear c5
        try clear p6
        try clear c7
        try clear c7b0
        try clear c7b1
        try clear c8
        try clear c8b0
        try clear c8b1
        obtain ⟨x11_1, x12_1, x13_1, rfl, HA, HK1, HO_10, HO_11, HO_12, HB⟩ := hrel
        cases gk with
        | zero => exact absurd HA.out (by simp [spec_wrLeast.l0])
        | succ k1 =>
          have H := HA.out
          clear HA
          simp only [spec_wrLeast.l0] at H
          by_cases c14 : x13_1 ≤ a0
          · rw [if_pos c14] at H
            have c14b0 : decide (x13_1 ≤ a0) = true := decide_eq_true c14
            clear c14
            by_cases c15 : 0 ≤ x13_1
            · rw [if_pos c15] at H
              have c15b0 : decide (0 ≤ x13_1) = true := decide_eq_true c15
              clear c15
              by_cases c16 : x13_1 < (x12_1.length : Int)
              · rw [if_pos c16] at H
                have c16b0 : decide (x13_1 < (x12_1.length : Int)) = true := decide_eq_true c16
                clear c16
                obtain ⟨y200, hy200⟩ : ∃ y_ : List Int, y_ = (x12_1.set (x13_1 : Int).toNat (-1)) := ⟨_, rfl⟩
                replace H : (spec_wrLeast.l1 k1 a0 a1 a2 t191 x11_1 y200 x13_1 a1) = some (r1, r2) := by first | (rw [hy200]; with_reducible exact H) | (have H2_ := (Option.bind_some _ _).symm.trans H; rw [hy200]; with_reducible exact H2_) | (have H2_ := (Option.bind_some _ _).symm.trans H; with_reducible exact H2_) | with_reducible exact H | (rw [hy200]; exact H) | exact H
                have Ny200 := Aside0.mk hy200
                clear hy200
                have H' := Aside0.mk H
                clear H
                have p17 : 0 ≤ (x13_1 : Int) := of_decide_eq_true (by first | (with_reducible assumption) | assumption)
                have q17 : (x13_1 : Int) < ((x12_1.length : Int) : Int) := of_decide_eq_true (by first | (with_reducible assumption) | assumption)
                obtain ⟨go17, co17, eo17, gb17, gl17, cl17, HG17⟩ := Kd.R_form HO_12.out (by omega)
                (first | cases eo17 | (injection eo17 with ea_ en_ ec_; (first | subst ea_ | (injection ea_ with ea_; subst ea_)); subst ec_; clear en_))
                have GB17 := Aside0.mk gb17
                have GG17 := Aside0.mk HG17
                clear gb17 gl17 HG17
                obtain ⟨hx17_0, hf17_0⟩ := Kd.R_celln 0 HO_12.out (x13_1 : Int) p17 q17
                replace p17 := eq_true p17
                replace q17 := eq_true q17
                have HP18 := Kd.R_putg HO_12.out (x13_1 : Int) (-1)
                go_wp2_with (first | ((with_reducible refine gate_store (t := 3) (p := 32) rfl ?_); (try (rw [drewN_self wr]; generalize hq_ : World.drewN wr _ = wr; have n0_ := Aside0.mk (Kd.R_at hq_ HO_10.out); have n1_ := Aside0.mk (Kd.R_at hq_ HO_11.out); have n2_ := Aside0.mk (Kd.R_at hq_ HO_12.out); have n3_ := Aside0.mk (below_at hq_ HB.out); clear hq_ HO_10 HO_11 HO_12 HB; have HO_10 := n0_; have HO_11 := n1_; have HO_12 := n2_; have HB := n3_; clear n0_ n1_ n2_ n3_; (try (obtain ⟨hy_a, hz_a⟩ := Kd.R_celln 0 HO_12.out (x13_1 : Int) (of_decide_eq_true (by first | (with_reducible assumption) | assumption)) (of_decide_eq_true (by first | (with_reducible assumption) | assumption)))); (try (have HP18 := Kd.R_putg HO_12.out (x13_1 : Int) (-1))))); refine store_event (t := 3) (p := 32) (v := ?vo_w19) (w1 := (wr.setCell ⟨go17, (x13_1 : Int).toNat, none⟩ (.int .i64 (-1)))) ?hg ?ho ?hn ?hr ?_; (case ho => rfl); (case hg => rfl); (case hn => rfl); (case hr => first | (go_simp; done) | (go_simp; rfl)); intro w19 hw; have hg : wr.grownBy w19 (some go17) := (by rw [hw]; exact HP18.2); have hp_ : Kd.R (Kd.int .i64) 3 w19 w.heap.size (fun k_ => some k_ ≠ (v192 : Value).ownBlock ∧ some k_ ≠ (v195 : Value).ownBlock) (.slice (some ⟨go17, 0, none⟩) x12_1.length co17) y200 := (by rw [hw, Ny200.out]; exact HP18.1); clear HP18; have n0_ := Aside0.mk (Kd.R_after (v := (.slice (some ⟨go17, 0, none⟩) x12_1.length co17)) (v1 := (.slice (some ⟨go17, 0, none⟩) x12_1.length co17)) (ok := (fun k_ => some k_ ≠ (v195 : Value).ownBlock)) (by (with_reducible repeat (first | apply Kd.R_alloc | apply Kd.R_drewN | apply Kd.R_drew)); exact HO_10.out) hg (.inl rfl)); have n1_ := Aside0.mk (Kd.R_after (v := (.slice (some ⟨go17, 0, none⟩) x12_1.length co17)) (v1 := (.slice (some ⟨go17, 0, none⟩) x12_1.length co17)) (ok := (fun k_ => some k_ ≠ (v192 : Value).ownBlock)) (by (with_reducible repeat (first | apply Kd.R_alloc | apply Kd.R_drewN | apply Kd.R_drew)); exact HO_11.out) hg (.inl rfl)); have n2_ := Aside0.mk (hp_); have n3_ := Aside0.mk ((by rw [hw]; exact below_set (HB.out) GB17.out : Below w.heap.size w w19)); clear HO_10; clear HO_11; clear HO_12; clear HB; have HO_10 := n0_; have HO_11 := n1_; have HO_12 := n2_; have HB := n3_; clear n0_ n1_ n2_ n3_; clear hg hw hp_))
                repeat (go_quiet (first | ((with_reducible refine gate_store (t := 3) (p := 32) rfl ?_); (try (rw [drewN_self wr]; generalize hq_ : World.drewN wr _ = wr; have n0_ := Aside0.mk (Kd.R_at hq_ HO_10.out); have n1_ := Aside0.mk (Kd.R_at hq_ HO_11.out); have n2_ := Aside0.mk (Kd.R_at hq_ HO_12.out); have n3_ := Aside0.mk (below_at hq_ HB.out); clear hq_ HO_10 HO_11 HO_12 HB; have HO_10 := n0_; have HO_11 := n1_; have HO_12 := n2_; have HB := n3_; clear n0_ n1_ n2_ n3_; (try (obtain ⟨hy_a, hz_a⟩ := Kd.R_celln 0 HO_12.out (x13_1 : Int) (of_decide_eq_true (by first | (with_reducible assumption) | assumption)) (of_decide_eq_true (by first | (with_reducible assumption) | assumption)))); (try (have HP18 := Kd.R_putg HO_12.out (x13_1 : Int) (-1))))); refine store_event (t := 3) (p := 32) (v := ?vo_w19) (w1 := (wr.setCell ⟨go17, (x13_1 : Int).toNat, none⟩ (.int .i64 (-1)))) ?hg ?ho ?hn ?hr ?_; (case ho => rfl); (case hg => rfl); (case hn => rfl); (case hr => first | (go_simp; done) | (go_simp; rfl)); intro w19 hw; have hg : wr.grownBy w19 (some go17) := (by rw [hw]; exact HP18.2); have hp_ : Kd.R (Kd.int .i64) 3 w19 w.heap.size (fun k_ => some k_ ≠ (v192 : Value).ownBlock ∧ some k_ ≠ (v195 : Value).ownBlock) (.slice (some ⟨go17, 0, none⟩) x12_1.length co17) y200 := (by rw [hw, Ny200.out]; exact HP18.1); clear HP18; have n0_ := Aside0.mk (Kd.R_after (v := (.slice (some ⟨go17, 0, none⟩) x12_1.length co17)) (v1 := (.slice (some ⟨go17, 0, none⟩) x12_1.length co17)) (ok := (fun k_ => some k_ ≠ (v195 : Value).ownBlock)) (by (with_reducible repeat (first | apply Kd.R_alloc | apply Kd.R_drewN | apply Kd.R_drew)); exact HO_10.out) hg (.inl rfl)); have n1_ := Aside0.mk (Kd.R_after (v := (.slice (some ⟨go17, 0, none⟩) x12_1.length co17)) (v1 := (.slice (some ⟨go17, 0, none⟩) x12_1.length co17)) (ok := (fun k_ => some k_ ≠ (v192 : Value).ownBlock)) (by (with_reducible repeat (first | apply Kd.R_alloc | apply Kd.R_drewN | apply Kd.R_drew)); exact HO_11.out) hg (.inl rfl)); have n2_ := Aside0.mk (hp_); have n3_ := Aside0.mk ((by rw [hw]; exact below_set (HB.out) GB17.out : Below w.heap.size w w19)); clear HO_10; clear HO_11; clear HO_12; clear HB; have HO_10 := n0_; have HO_11 := n1_; have HO_12 := n2_; have HB := n3_; clear n0_ n1_ n2_ n3_; clear hg hw hp_)); try go_wp2_with (first | ((with_reducible refine gate_store (t := 3) (p := 32) rfl ?_); (try (rw [drewN_self wr]; generalize hq_ : World.drewN wr _ = wr; have n0_ := Aside0.mk (Kd.R_at hq_ HO_10.out); have n1_ := Aside0.mk (Kd.R_at hq_ HO_11.out); have n2_ := Aside0.mk (Kd.R_at hq_ HO_12.out); have n3_ := Aside0.mk (below_at hq_ HB.out); clear hq_ HO_10 HO_11 HO_12 HB; have HO_10 := n0_; have HO_11 := n1_; have HO_12 := n2_; have HB := n3_; clear n0_ n1_ n2_ n3_; (try (obtain ⟨hy_a, hz_a⟩ := Kd.R_celln 0 HO_12.out (x13_1 : Int) (of_decide_eq_true (by first | (with_reducible assumption) | assumption)) (of_decide_eq_true (by first | (with_reducible assumption) | assumption)))); (try (have HP18 := Kd.R_putg HO_12.out (x13_1 : Int) (-1))))); refine store_event (t := 3) (p := 32) (v := ?vo_w19) (w1 := (wr.setCell ⟨go17, (x13_1 : Int).toNat, none⟩ (.int .i64 (-1)))) ?hg ?ho ?hn ?hr ?_; (case ho => rfl); (case hg => rfl); (case hn => rfl); (case hr => first | (go_simp; done) | (go_simp; rfl)); intro w19 hw; have hg : wr.grownBy w19 (some go17) := (by rw [hw]; exact HP18.2); have hp_ : Kd.R (Kd.int .i64) 3 w19 w.heap.size (fun k_ => some k_ ≠ (v192 : Value).ownBlock ∧ some k_ ≠ (v195 : Value).ownBlock) (.slice (some ⟨go17, 0, none⟩) x12_1.length co17) y200 := (by rw [hw, Ny200.out]; exact HP18.1); clear HP18; have n0_ := Aside0.mk (Kd.R_after (v := (.slice (some ⟨go17, 0, none⟩) x12_1.length co17)) (v1 := (.slice (some ⟨go17, 0, none⟩) x12_1.length co17)) (ok := (fun k_ => some k_ ≠ (v195 : Value).ownBlock)) (by (with_reducible repeat (first | apply Kd.R_alloc | apply Kd.R_drewN | apply Kd.R_drew)); exact HO_10.out) hg (.inl rfl)); have n1_ := Aside0.mk (Kd.R_after (v := (.slice (some ⟨go17, 0, none⟩) x12_1.length co17)) (v1 := (.slice (some ⟨go17, 0, none⟩) x12_1.length co17)) (ok := (fun k_ => some k_ ≠ (v192 : Value).ownBlock)) (by (with_reducible repeat (first | apply Kd.R_alloc | apply Kd.R_drewN | apply Kd.R_drew)); exact HO_11.out) hg (.inl rfl)); have n2_ := Aside0.mk (hp_); have n3_ := Aside0.mk ((by rw [hw]; exact below_set (HB.out) GB17.out : Below w.heap.size w w19)); clear HO_10; clear HO_11; clear HO_12; clear HB; have HO_10 := n0_; have HO_11 := n1_; have HO_12 := n2_; have HB := n3_; clear n0_ n1_ n2_ n3_; clear hg hw hp_)))
                go_loopg [14] k1 (fun kq v14 w' => ∃ (x11_2 : List Int) (x12_2 : List Int) (x14_2 : Int), v14 = .int .i64 x14_2 ∧ Aside0 (spec_wrLeast.l1 kq a0 a1 a2 t191 x11_2 x12_2 x13_1 x14_2 = some (r1, r2)) ∧ Aside0 (kq ≤ k1) ∧ Aside0 (Kd.R (Kd.int .i64) 3 w' w.heap.size (fun k_ => some k_ ≠ (v195 : Value).ownBlock ∧ some k_ ≠ ((.slice (some ⟨go17, 0, none⟩) x12_1.length co17) : Value).ownBlock) v192 t191) ∧ Aside0 (Kd.R (Kd.int .i64) 3 w' w.heap.size (fun k_ => some k_ ≠ (v192 : Value).ownBlock ∧ some k_ ≠ ((.slice (some ⟨go17, 0, none⟩) x12_1.length co17) : Value).ownBlock) v195 x11_2) ∧ Aside0 (Kd.R (Kd.int .i64) 3 w' w.heap.size (fun k_ => some k_ ≠ (v192 : Value).ownBlock ∧ some k_ ≠ (v195 : Value).ownBlock) (.slice (some ⟨go17, 0, none⟩) x12_1.length co17) x12_2) ∧ Aside0 (Below w.heap.size w w'))
                case atStart => exact ⟨(x11_1), (y200), (a1), (by first | rfl | (simp; done) | (simp [*]; done)), H', ⟨Nat.le_refl _⟩, ⟨by (with_reducible repeat (first | apply Kd.R_alloc | apply Kd.R_drewN | apply Kd.R_drew)); exact HO_10.out⟩, ⟨by (with_reducible repeat (first | apply Kd.R_alloc | apply Kd.R_drewN | apply Kd.R_drew)); exact HO_11.out⟩, ⟨by (with_reducible repeat (first | apply Kd.R_alloc | apply Kd.R_drewN | apply Kd.R_drew)); exact HO_12.out⟩, ⟨by repeat (first | (with_reducible first | exact HB.out | apply below_alloc | apply pw_below_drewN | apply below_drew1) | exact HB.out)⟩⟩
                case round =>
                  clear H'
                  try clear c1
                  try clear p1
                  try clear q1
                  try clear hx1
                  try clear p2
                  try clear c5
                  try clear p6
                  try clear c7
                  try clear c7b0
                  try clear c7b1
                  try clear c8
                  try clear c8b0
                  try clear c8b1
                  try clear c14
                  try clear c14b0
                  try clear c15
                  try clear c15b0
                  try clear c16
                  try clear c16b0
                  try clear p17
                  try clear q17
                  try clear hx17
                  try clear hf17
                  try clear hx17_0
                  try clear p17
                  try clear p2
                  try clear p6
                  try clear q17
                  obtain ⟨x11_2, x12_2, x14_2, rfl, HA, HK2, HO_10, HO_11, HO_12, HB⟩ := hrel
                  have hl12_2 := (Kd.R_reads' HO_12.out).1
                  rw [hl12_2] at HO_12
                  (try simp only [hl12_2])
                  (try simp only [hl12_2] at HO_10)
                  (try simp only [hl12_2] at HO_11)
                  cases gk with
                  | zero => exact absurd HA.out (by simp [spec_wrLeast.l1])
                  | succ k2 =>
                    have H := HA.out
                    clear HA
                    simp only [spec_wrLeast.l1] at H
                    have HC20 := Aside0.mk H
                    clear H
                    go_upto_region 9 with (fail)
                    repeat (go_quiet (fail); go_upto_region 9 with (fail))
                    go_cut [41] (fun v41 wc => ∃ (kq : Nat) (x41_19 : Bool), v41 = .bool x41_19 ∧ Aside0 (spec_wrLeast.j2 kq a0 a1 a2 t191 x11_2 x12_2 x13_1 x14_2 x41_19 = some (r1, r2)) ∧ Aside0 (kq ≤ k2) ∧ Aside0 (Kd.R (Kd.int .i64) 3 wc w.heap.size (fun k_ => some k_ ≠ (v195 : Value).ownBlock ∧ some k_ ≠ ((.slice (some ⟨go17, 0, none⟩) x12_2.length co17) : Value).ownBlock) v192 t191) ∧ Aside0 (Kd.R (Kd.int .i64) 3 wc w.heap.size (fun k_ => some k_ ≠ (v192 : Value).ownBlock ∧ some k_ ≠ ((.slice (some ⟨go17, 0, none⟩) x12_2.length co17) : Value).ownBlock) v195 x11_2) ∧ Aside0 (Kd.R (Kd.int .i64) 3 wc w.heap.size (fun k_ => some k_ ≠ (v192 : Value).ownBlock ∧ some k_ ≠ (v195 : Value).ownBlock) (.slice (some ⟨go17, 0, none⟩) x12_2.length co17) x12_2) ∧ Aside0 (Below w.heap.size w wc))
                    case first =>
                      have H := HC20.out
                      clear HC20
                      by_cases c21 : x14_2 ≤ a2
                      · rw [if_pos c21] at H
                        have c21b0 : decide (x14_2 ≤ a2) = true := decide_eq_true c21
                        clear c21
                        (first | rw [c21b0] | (simp only [i64_w, i32_w]; rw [c21b0]) | skip)
                        have H' := Aside0.mk H
                        clear H
                        go_wp2
                        repeat (go_quiet (fail); try go_wp2)
                        go_meet
                        case rel => exact ⟨_, (decide (x14_2 ≤ x13_1)), (by first | rfl | (simp; done) | (simp [*]; done)), H', ⟨by have := HK1.out; have := HK2.out; first | omega | exact Nat.le_refl _⟩, ⟨by (try simp only [hl12_2]); (with_reducible repeat (first | apply Kd.R_alloc | apply Kd.R_drewN | apply Kd.R_drew)); exact HO_10.out⟩, ⟨by (try simp only [hl12_2]); (with_reducible repeat (first | apply Kd.R_alloc | apply Kd.R_drewN | apply Kd.R_drew)); exact HO_11.out⟩, ⟨by (try simp only [hl12_2]); (with_reducible repeat (first | apply Kd.R_alloc | apply Kd.R_drewN | apply Kd.R_drew)); exact HO_12.out⟩, ⟨by repeat (first | (with_reducible first | exact HB.out | apply below_alloc | apply pw_below_drewN | apply below_drew1) | exact HB.out)⟩⟩
                      · rw [if_neg c21] at H
                        have c21b0 : decide (x14_2 ≤ a2) = false := decide_eq_false c21
                        clear c21
                        (first | rw [c21b0] | (simp only [i64_w, i32_w]; rw [c21b0]) | skip)
                        have H' := Aside0.mk H
                        clear H
                        go_wp2
                        repeat (go_quiet (fail); try go_wp2)
                        go_meet
                        case rel => exact ⟨_, (false), (by first | rfl | (simp; done) | (simp [*]; done)), H', ⟨by have := HK1.out; have := HK2.out; first | omega | exact Nat.le_refl _⟩, ⟨by (try simp only [hl12_2]); (with_reducible repeat (first | apply Kd.R_alloc | apply Kd.R_drewN | apply Kd.R_drew)); exact HO_10.out⟩, ⟨by (try simp only [hl12_2]); (with_reducible repeat (first | apply Kd.R_alloc | apply Kd.R_drewN | apply Kd.R_drew)); exact HO_11.out⟩, ⟨by (try simp only [hl12_2]); (with_reducible repeat (first | apply Kd.R_alloc | apply Kd.R_drewN | apply Kd.R_drew)); exact HO_12.out⟩, ⟨by repeat (first | (with_reducible first | exact HB.out | apply below_alloc | apply pw_below_drewN | apply below_drew1) | exact HB.out)⟩⟩
                    case rest =>
                      clear HC20
                      try clear c1
                      try clear p1
                      try clear q1
                      try clear hx1
                      try clear c2
                      try clear p2
                      try clear c5
                      try clear p6
                      try clear c7
                      try clear c7b0
                      try clear c7b1
                      try clear c8
                      try clear c8b0
                      try clear c8b1
                      try clear c14
                      try clear c14b0
                      try clear c15
                      try clear c15b0
                      try clear c16
                      try clear c16b0
                      try clear p17
                      try clear q17
                      try clear hx17
                      try clear hf17
                      try clear c21
                      try clear c21b0
                      try clear hx17_0
                      try clear p1
                      try clear p17
                      try clear p2
                      try clear p6
                      try clear q1
                      try clear q17
                      obtain ⟨kq, x41_19, rfl, HA, HJ19, HO_10, HO_11, HO_12, HB⟩ := hcut
                      cases kq with
                      | zero => exact absurd HA.out (by simp [spec_wrLeast.j2])
                      | succ kj19 =>
                        have H := HA.out
                        clear HA
                        simp only [spec_wrLeast.j2] at H
                        by_cases c22 : x41_19 = true
                        · subst c22
                          have H1 : (if 0 ≤ x14_2 then (if x14_2 < (t191.length : Int) then (if (rd t191 x14_2) = 0 then (spec_wrLeast.j3 kj19 a0 a1 a2 t191 x11_2 x12_2 x13_1 x14_2 true) else (if 0 ≤ (wrap64 (x13_1 - x14_2)) then (if (wrap64 (x13_1 - x14_2)) < (x12_2.length : Int) then (spec_wrLeast.j3 kj19 a0 a1 a2 t191 x11_2 x12_2 x13_1 x14_2 (decide ((rd x12_2 (wrap64 (x13_1 - x14_2))) < 0))) else (none)) else (none))) else (none)) else (none)) = some (r1, r2) := by rw [if_pos rfl] at H; exact H
                          clear H
                          have H := H1
                          clear H1
                          have HC23 := Aside0.mk H
                          clear H
                          go_upto_region 11 with (fail)
                          repeat (go_quiet (fail); go_upto_region 11 with (fail))
                          go_cut [57] (fun v57 wc => ∃ (kq : Nat) (x57_22 : Bool), v57 = .bool x57_22 ∧ Aside0 (spec_wrLeast.j3 kq a0 a1 a2 t191 x11_2 x12_2 x13_1 x14_2 x57_22 = some (r1, r2)) ∧ Aside0 (kq ≤ kj19) ∧ Aside0 (Kd.R (Kd.int .i64) 3 wc w.heap.size (fun k_ => some k_ ≠ (v195 : Value).ownBlock ∧ some k_ ≠ ((.slice (some ⟨go17, 0, none⟩) x12_2.length co17) : Value).ownBlock) v192 t191) ∧ Aside0 (Kd.R (Kd.int .i64) 3 wc w.heap.size (fun k_ => some k_ ≠ (v192 : Value).ownBlock ∧ some k_ ≠ ((.slice (some ⟨go17, 0, none⟩) x12_2.length co17) : Value).ownBlock) v195 x11_2) ∧ Aside0 (Kd.R (Kd.int .i64) 3 wc w.heap.size (fun k_ => some k_ ≠ (v192 : Value).ownBlock ∧ some k_ ≠ (v195 : Value).ownBlock) (.slice (some ⟨go17, 0, none⟩) x12_2.length co17) x12_2) ∧ Aside0 (Below w.heap.size w wc))
                          case first =>
                            have H := HC23.out
                            clear HC23
                            by_cases c24 : 0 ≤ x14_2
                            · rw [if_pos c24] at H
                              have c24b0 : decide (0 ≤ x14_2) = true := decide_eq_true c24
                              clear c24
                              (first | rw [c24b0] | (simp only [i64_w, i32_w]; rw [c24b0]) | skip)
                              by_cases c25 : x14_2 < (t191.length : Int)
                              · rw [if_pos c25] at H
                                have c25b0 : decide (x14_2 < (t191.length : Int)) = true := decide_eq_true c25
                                clear c25
                                by_cases c26 : (rd t191 x14_2) = 0
                                · rw [if_pos c26] at H
                                  have c26b0 : ((rd t191 x14_2) == 0) = true := beq_iff_eq.mpr c26
                                  have c26b1 : ((rd t191 x14_2) != 0) = false := bne_eq_false_iff_eq.mpr c26
                                  clear c26
                                  have H' := Aside0.mk H
                                  clear H
                                  obtain ⟨Ao27, co27, eo27⟩ := Kd.R_slice HO_10.out
                                  subst eo27
                                  have p201 : 0 ≤ (x14_2 : Int) := of_decide_eq_true (by first | (with_reducible assumption) | assumption)
                                  have q201 : x14_2 < (t191.length : Int) := of_decide_eq_true (by first | (with_reducible assumption) | assumption)
                                  obtain ⟨ad201, e201, hx201_0⟩ := Kd.at_int (Kd.R_reads' HO_10.out).2.2 x14_2 p201 q201
                                  cases e201
                                  replace p201 := eq_true p201
                                  replace q201 := eq_true q201
                                  go_wp2
                                  repeat (go_quiet (fail); try go_wp2)
                                  go_meet
                                  case rel => exact ⟨_, (true), (by first | rfl | (simp; done) | (simp [*]; done)), H', ⟨by have := HK1.out; have := HK2.out; have := HJ19.out; first | omega | exact Nat.le_refl _⟩, ⟨by (try simp only [hl12_2]); (with_reducible repeat (first | apply Kd.R_alloc | apply Kd.R_drewN | apply Kd.R_drew)); exact HO_10.out⟩, ⟨by (try simp only [hl12_2]); (with_reducible repeat (first | apply Kd.R_alloc | apply Kd.R_drewN | apply Kd.R_drew)); exact HO_11.out⟩, ⟨by (try simp only [hl12_2]); (with_reducible repeat (first | apply Kd.R_alloc | apply Kd.R_drewN | apply Kd.R_drew)); exact HO_12.out⟩, ⟨by repeat (first | (with_reducible first | exact HB.out | apply below_alloc | apply pw_below_drewN | apply below_drew1) | exact HB.out)⟩⟩
                                · rw [if_neg c26] at H
                                  have c26b0 : ((rd t191 x14_2) == 0) = false := beq_eq_false_iff_ne.mpr c26
                                  have c26b1 : ((rd t191 x14_2) != 0) = true := bne_iff_ne.mpr c26
                                  obtain ⟨ji28, hji28⟩ : ∃ j_ : Int, (wrap64 (x13_1 - x14_2)) = j_ := ⟨_, rfl⟩
                                  replace H : (if 0 ≤ (ji28) then (if (ji28) < (x12_2.length : Int) then (spec_wrLeast.j3 kj19 a0 a1 a2 t191 x11_2 x12_2 x13_1 x14_2 (decide ((rd x12_2 (ji28)) < 0))) else (none)) else (none)) = some (r1, r2) := by first | (rw [hji28] at H; exact H) | (simp only [hji28] at H ⊢; exact H)
                                  have hji28w : (IntKind.i64.wrap (x13_1 - x14_2)) = ji28 := (i64_w _).trans hji28
                                  by_cases c29 : 0 ≤ (ji28)
                                  · rw [if_pos c29] at H
                                    have c29b0 : decide (0 ≤ (ji28)) = true := decide_eq_true c29
                                    clear c29
                                    by_cases c30 : (ji28) < (x12_2.length : Int)
                                    · rw [if_pos c30] at H
                                      have c30b0 : decide ((ji28) < (x12_2.length : Int)) = true := decide_eq_true c30
                                      clear c30
                                      have H' := Aside0.mk H
                                      clear H
                                      obtain ⟨Ao31, co31, eo31⟩ := Kd.R_slice HO_10.out
                                      subst eo31
                                      have p201 : 0 ≤ (x14_2 : Int) := of_decide_eq_true (by first | (with_reducible assumption) | assumption)
                                      have q201 : x14_2 < (t191.length : Int) := of_decide_eq_true (by first | (with_reducible assumption) | assumption)
                                      obtain ⟨ad201, e201, hx201_0⟩ := Kd.at_int (Kd.R_reads' HO_10.out).2.2 x14_2 p201 q201
                                      cases e201
                                      replace p201 := eq_true p201
                                      replace q201 := eq_true q201
                                      have p202 : 0 ≤ ((ji28) : Int) := of_decide_eq_true (by first | (with_reducible assumption) | assumption)
                                      have q202 : (ji28) < (x12_2.length : Int) := of_decide_eq_true (by first | (with_reducible assumption) | assumption)
                                      obtain ⟨ad202, e202, hx202_0⟩ := Kd.at_int (Kd.R_reads' HO_12.out).2.2 (ji28) p202 q202
                                      obtain rfl : (⟨go17, 0, none⟩ : Addr) = ad202 := (by injection e202)
                                      (first | simp only [add_plain] at hx202_0 | simp only [add_at] at hx202_0 | simp only [Addr.add, Nat.zero_add] at hx202_0 | skip)
                                      replace p202 := eq_true p202
                                      replace q202 := eq_true q202
                                      go_wp2
                                      repeat (go_quiet (fail); try go_wp2)
                                      go_meet
                                      case rel => exact ⟨_, (decide ((rd x12_2 (ji28)) < 0)), (by first | rfl | (simp; done) | (simp only [← hji28] <;> (first | rfl | simp)) | (simp [*]; done)), H', ⟨by have := HK1.out; have := HK2.out; have := HJ19.out; first | omega | exact Nat.le_refl _⟩, ⟨by (try simp only [hl12_2]); (with_reducible repeat (first | apply Kd.R_alloc | apply Kd.R_drewN | apply Kd.R_drew)); exact HO_10.out⟩, ⟨by (try simp only [hl12_2]); (with_reducible repeat (first | apply Kd.R_alloc | apply Kd.R_drewN | apply Kd.R_drew)); exact HO_11.out⟩, ⟨by (try simp only [hl12_2]); (with_reducible repeat (first | apply Kd.R_alloc | apply Kd.R_drewN | apply Kd.R_drew)); exact HO_12.out⟩, ⟨by repeat (first | (with_reducible first | exact HB.out | apply below_alloc | apply pw_below_drewN | apply below_drew1) | exact HB.out)⟩⟩
                                    · rw [if_neg c30] at H
                                      exact absurd H (by simp)
                                  · rw [if_neg c29] at H
                                    exact absurd H (by simp)
                              · rw [if_neg c25] at H
                                exact absurd H (by simp)
                            · rw [if_neg c24] at H
                              exact absurd H (by simp)
                          case rest =>
                            clear HC23
                            try clear c1
                            try clear p1
                            try clear q1
                            try clear hx1
                            try clear c2
                            try clear p2
                            try clear q2
                            try clear hx2
                            try clear c3
                            try clear c5
                            try clear p6
                            try clear c7
                            try clear c7b0
                            try clear c7b1
                            try clear c8
                            try clear c8b0
                            try clear c8b1
                            try clear c14
                            try clear c14b0
                            try clear c15
                            try clear c15b0
                            try clear c16
                            try clear c16b0
                            try clear p17
                            try clear q17
                            try clear hx17
                            try clear hf17
                            try clear p20
                            try clear q20
                            try clear hx20
                            try clear c21
                            try clear c21b0
                            try clear c22
                            try clear c24
                            try clear c24b0
                            try clear c25
                            try clear c25b0
                            try clear c26
                            try clear c26b0
                            try clear c26b1
                            try clear c29
                            try clear c29b0
                            try clear c30
                            try clear c30b0
                            try clear hx17_0
                            try clear hx201_0
                            try clear hx202_0
                            try clear p1
                            try clear p17
                            try clear p2
                            try clear p201
                            try clear p202
                            try clear p6
                            try clear q1
                            try clear q17
                            try clear q201
                            try clear q202
                            obtain ⟨kq, x57_22, rfl, HA, HJ22, HO_10, HO_11, HO_12, HB⟩ := hcut
                            cases kq with
                            | zero => exact absurd HA.out (by simp [spec_wrLeast.j3])
                            | succ kj22 =>
                              have H := HA.out
                              clear HA
                              simp only [spec_wrLeast.j3] at H
                              by_cases c32 : x57_22 = true
                              · subst c32
                                have H1 : (spec_wrLeast.l1 kj22 a0 a1 a2 t191 x11_2 x12_2 x13_1 (wrap64 (x14_2 + 1))) = some (r1, r2) := by rw [if_pos rfl] at H; exact H
                                clear H
                                have H := H1
                                clear H1
                                have H' := Aside0.mk H
                                clear H
                                go_wp2
                                repeat (go_quiet (fail); try go_wp2)
                                (try simp only [← hl12_2])
                                go_roundg kj22
                                case measure => have := HK1.out; have := HK2.out; have := HJ19.out; have := HJ22.out; omega
                                case rel => exact ⟨(x11_2), (x12_2), (wrap64 (x14_2 + 1)), (by first | rfl | (simp; done) | (simp [*]; done)), H', ⟨by have := HK1.out; have := HK2.out; have := HJ19.out; have := HJ22.out; omega⟩, ⟨by (try simp only [hl12_2]); (with_reducible repeat (first | apply Kd.R_alloc | apply Kd.R_drewN | apply Kd.R_drew)); exact HO_10.out⟩, ⟨by (try simp only [hl12_2]); (with_reducible repeat (first | apply Kd.R_alloc | apply Kd.R_drewN | apply Kd.R_drew)); exact HO_11.out⟩, ⟨by (try simp only [hl12_2]); (with_reducible repeat (first | apply Kd.R_alloc | apply Kd.R_drewN | apply Kd.R_drew)); exact HO_12.out⟩, ⟨by repeat (first | (with_reducible first | exact HB.out | apply below_alloc | apply pw_below_drewN | apply below_drew1) | exact HB.out)⟩⟩
                              · replace c32 := Bool.eq_false_iff.mpr c32
                                subst c32
                                have H1 : (if 0 ≤ (wrap64 (x13_1 - x14_2)) then (if (wrap64 (x13_1 - x14_2)) < (x11_2.length : Int) then (if 0 ≤ x14_2 then (if x14_2 < (t191.length : Int) then (if (wrap64 (x13_1 - x14_2)) < (x12_2.length : Int) then (if 0 ≤ x13_1 then (if x13_1 < (x12_2.length : Int) then (if (rd x12_2 x13_1) < 0 then (if x13_1 < (x11_2.length : Int) then (spec_wrLeast.l1 kj22 a0 a1 a2 t191 (x11_2.set (x13_1 : Int).toNat (wrap64 ((rd x11_2 (wrap64 (x13_1 - x14_2))) + (rd t191 x14_2)))) (x12_2.set (x13_1 : Int).toNat (wrap64 ((rd x12_2 (wrap64 (x13_1 - x14_2))) + 1))) x13_1 (wrap64 (x14_2 + 1))) else (none)) else (if x13_1 < (x11_2.length : Int) then (if (wrap64 ((rd x11_2 (wrap64 (x13_1 - x14_2))) + (rd t191 x14_2))) < (rd x11_2 x13_1) then (spec_wrLeast.l1 kj22 a0 a1 a2 t191 (x11_2.set (x13_1 : Int).toNat (wrap64 ((rd x11_2 (wrap64 (x13_1 - x14_2))) + (rd t191 x14_2)))) (x12_2.set (x13_1 : Int).toNat (wrap64 ((rd x12_2 (wrap64 (x13_1 - x14_2))) + 1))) x13_1 (wrap64 (x14_2 + 1))) else (if (wrap64 ((rd x11_2 (wrap64 (x13_1 - x14_2))) + (rd t191 x14_2))) = (rd x11_2 x13_1) then (if (wrap64 ((rd x12_2 (wrap64 (x13_1 - x14_2))) + 1)) < (rd x12_2 x13_1) then (spec_wrLeast.l1 kj22 a0 a1 a2 t191 (x11_2.set (x13_1 : Int).toNat (wrap64 ((rd x11_2 (wrap64 (x13_1 - x14_2))) + (rd t191 x14_2)))) (x12_2.set (x13_1 : Int).toNat (wrap64 ((rd x12_2 (wrap64 (x13_1 - x14_2))) + 1))) x13_1 (wrap64 (x14_2 + 1))) else (spec_wrLeast.l1 kj22 a0 a1 a2 t191 x11_2 x12_2 x13_1 (wrap64 (x14_2 + 1)))) else (spec_wrLeast.l1 kj22 a0 a1 a2 t191 x11_2 x12_2 x13_1 (wrap64 (x14_2 + 1))))) else (none))) else (none)) else (none)) else (none)) else (none)) else (none)) else (none)) else (none)) = some (r1, r2) := by rw [if_neg (show ¬ (false = true) by decide)] at H; exact H
                                clear H
                                have H := H1
                                clear H1
                                obtain ⟨ji33, hji33⟩ : ∃ j_ : Int, (wrap64 (x13_1 - x14_2)) = j_ := ⟨_, rfl⟩
                                replace H : (if 0 ≤ (ji33) then (if (ji33) < (x11_2.length : Int) then (if 0 ≤ x14_2 then (if x14_2 < (t191.length : Int) then (if (ji33) < (x12_2.length : Int) then (if 0 ≤ x13_1 then (if x13_1 < (x12_2.length : Int) then (if (rd x12_2 x13_1) < 0 then (if x13_1 < (x11_2.length : Int) then (spec_wrLeast.l1 kj22 a0 a1 a2 t191 (x11_2.set (x13_1 : Int).toNat (wrap64 ((rd x11_2 (ji33)) + (rd t191 x14_2)))) (x12_2.set (x13_1 : Int).toNat (wrap64 ((rd x12_2 (ji33)) + 1))) x13_1 (wrap64 (x14_2 + 1))) else (none)) else (if x13_1 < (x11_2.length : Int) then (if (wrap64 ((rd x11_2 (ji33)) + (rd t191 x14_2))) < (rd x11_2 x13_1) then (spec_wrLeast.l1 kj22 a0 a1 a2 t191 (x11_2.set (x13_1 : Int).toNat (wrap64 ((rd x11_2 (ji33)) + (rd t191 x14_2)))) (x12_2.set (x13_1 : Int).toNat (wrap64 ((rd x12_2 (ji33)) + 1))) x13_1 (wrap64 (x14_2 + 1))) else (if (wrap64 ((rd x11_2 (ji33)) + (rd t191 x14_2))) = (rd x11_2 x13_1) then (if (wrap64 ((rd x12_2 (ji33)) + 1)) < (rd x12_2 x13_1) then (spec_wrLeast.l1 kj22 a0 a1 a2 t191 (x11_2.set (x13_1 : Int).toNat (wrap64 ((rd x11_2 (ji33)) + (rd t191 x14_2)))) (x12_2.set (x13_1 : Int).toNat (wrap64 ((rd x12_2 (ji33)) + 1))) x13_1 (wrap64 (x14_2 + 1))) else (spec_wrLeast.l1 kj22 a0 a1 a2 t191 x11_2 x12_2 x13_1 (wrap64 (x14_2 + 1)))) else (spec_wrLeast.l1 kj22 a0 a1 a2 t191 x11_2 x12_2 x13_1 (wrap64 (x14_2 + 1))))) else (none))) else (none)) else (none)) else (none)) else (none)) else (none)) else (none)) else (none)) = some (r1, r2) := by first | (rw [hji33] at H; exact H) | (simp only [hji33] at H ⊢; exact H)
                                have hji33w : (IntKind.i64.wrap (x13_1 - x14_2)) = ji33 := (i64_w _).trans hji33
                                by_cases c34 : 0 ≤ (ji33)
                                · rw [if_pos c34] at H
                                  have c34b0 : decide (0 ≤ (ji33)) = true := decide_eq_true c34
                                  clear c34
                                  by_cases c35 : (ji33) < (x11_2.length : Int)
                                  · rw [if_pos c35] at H
                                    have c35b0 : decide ((ji33) < (x11_2.length : Int)) = true := decide_eq_true c35
                                    clear c35
                                    by_cases c36 : 0 ≤ x14_2
                                    · rw [if_pos c36] at H
                                      have c36b0 : decide (0 ≤ x14_2) = true := decide_eq_true c36
                                      clear c36
                                      by_cases c37 : x14_2 < (t191.length : Int)
                                      · rw [if_pos c37] at H
                                        have c37b0 : decide (x14_2 < (t191.length : Int)) = true := decide_eq_true c37
                                        clear c37
                                        by_cases c38 : (ji33) < (x12_2.length : Int)
                                        · rw [if_pos c38] at H
                                          have c38b0 : decide ((ji33) < (x12_2.length : Int)) = true := decide_eq_true c38
                                          clear c38
                                          by_cases c39 : 0 ≤ x13_1
                                          · rw [if_pos c39] at H
                                            have c39b0 : decide (0 ≤ x13_1) = true := decide_eq_true c39
                                            clear c39
                                            by_cases c40 : x13_1 < (x12_2.length : Int)
                                            · rw [if_pos c40] at H
                                              have c40b0 : decide (x13_1 < (x12_2.length : Int)) = true := decide_eq_true c40
                                              clear c40
                                              by_cases c41 : (rd x12_2 x13_1) < 0
                                              · rw [if_pos c41] at H
                                                have c41b0 : decide ((rd x12_2 x13_1) < 0) = true := decide_eq_true c41
                                                clear c41
                                                by_cases c42 : x13_1 < (x11_2.length : Int)
                                                · rw [if_pos c42] at H
                                                  have c42b0 : decide (x13_1 < (x11_2.length : Int)) = true := decide_eq_true c42
                                                  clear c42
                                                  obtain ⟨y207, hy207⟩ : ∃ y_ : List Int, y_ = (x11_2.set (x13_1 : Int).toNat (wrap64 ((rd x11_2 (ji33)) + (rd t191 x14_2)))) := ⟨_, rfl⟩
                                                  replace H : (spec_wrLeast.l1 kj22 a0 a1 a2 t191 y207 (x12_2.set (x13_1 : Int).toNat (wrap64 ((rd x12_2 (ji33)) + 1))) x13_1 (wrap64 (x14_2 + 1))) = some (r1, r2) := by first | (rw [hy207]; with_reducible exact H) | (have H2_ := (Option.bind_some _ _).symm.trans H; rw [hy207]; with_reducible exact H2_) | (have H2_ := (Option.bind_some _ _).symm.trans H; with_reducible exact H2_) | with_reducible exact H | (rw [hy207]; exact H) | exact H
                                                  have Ny207 := Aside0.mk hy207
                                                  clear hy207
                                                  obtain ⟨y208, hy208⟩ : ∃ y_ : List Int, y_ = (x12_2.set (x13_1 : Int).toNat (wrap64 ((rd x12_2 (ji33)) + 1))) := ⟨_, rfl⟩
                                                  replace H : (spec_wrLeast.l1 kj22 a0 a1 a2 t191 y207 y208 x13_1 (wrap64 (x14_2 + 1))) = some (r1, r2) := by first | (rw [hy208]; with_reducible exact H) | (have H2_ := (Option.bind_some _ _).symm.trans H; rw [hy208]; with_reducible exact H2_) | (have H2_ := (Option.bind_some _ _).symm.trans H; with_reducible exact H2_) | with_reducible exact H | (rw [hy208]; exact H) | exact H
                                                  have Ny208 := Aside0.mk hy208
                                                  clear hy208
                                                  have H' := Aside0.mk H
                                                  clear H
                                                  obtain ⟨Ao45, co45, eo45⟩ := Kd.R_slice HO_11.out
                                                  subst eo45
                                                  have p203 : 0 ≤ ((ji33) : Int) := of_decide_eq_true (by first | (with_reducible assumption) | assumption)
                                                  have q203 : (ji33) < (x11_2.length : Int) := of_decide_eq_true (by first | (with_reducible assumption) | assumption)
                                                  obtain ⟨ad203, e203, hx203_0⟩ := Kd.at_int (Kd.R_reads' HO_11.out).2.2 (ji33) p203 q203
                                                  cases e203
                                                  replace p203 := eq_true p203
                                                  replace q203 := eq_true q203
                                                  obtain ⟨Ao46, co46, eo46⟩ := Kd.R_slice HO_10.out
                                                  subst eo46
                                                  have p204 : 0 ≤ (x14_2 : Int) := of_decide_eq_true (by first | (with_reducible assumption) | assumption)
                                                  have q204 : x14_2 < (t191.length : Int) := of_decide_eq_true (by first | (with_reducible assumption) | assumption)
                                                  obtain ⟨ad204, e204, hx204_0⟩ := Kd.at_int (Kd.R_reads' HO_10.out).2.2 x14_2 p204 q204
                                                  cases e204
                                                  replace p204 := eq_true p204
                                                  replace q204 := eq_true q204
                                                  have p205 : 0 ≤ ((ji33) : Int) := of_decide_eq_true (by first | (with_reducible assumption) | assumption)
                                                  have q205 : (ji33) < (x12_2.length : Int) := of_decide_eq_true (by first | (with_reducible assumption) | assumption)
                                                  obtain ⟨ad205, e205, hx205_0⟩ := Kd.at_int (Kd.R_reads' HO_12.out).2.2 (ji33) p205 q205
                                                  obtain rfl : (⟨go17, 0, none⟩ : Addr) = ad205 := (by injection e205)
                                                  (first | simp only [add_plain] at hx205_0 | simp only [add_at] at hx205_0 | simp only [Addr.add, Nat.zero_add] at hx205_0 | skip)
                                                  replace p205 := eq_true p205
                                                  replace q205 := eq_true q205
                                                  have p206 : 0 ≤ (x13_1 : Int) := of_decide_eq_true (by first | (with_reducible assumption) | assumption)
                                                  have q206 : x13_1 < (x12_2.length : Int) := of_decide_eq_true (by first | (with_reducible assumption) | assumption)
                                                  obtain ⟨ad206, e206, hx206_0⟩ := Kd.at_int (Kd.R_reads' HO_12.out).2.2 x13_1 p206 q206
                                                  obtain rfl : (⟨go17, 0, none⟩ : Addr) = ad206 := (by injection e206)
                                                  (first | simp only [add_plain] at hx206_0 | simp only [add_at] at hx206_0 | simp only [Addr.add, Nat.zero_add] at hx206_0 | skip)
                                                  replace p206 := eq_true p206
                                                  replace q206 := eq_true q206
                                                  have p43 : 0 ≤ (x13_1 : Int) := of_decide_eq_true (by first | (with_reducible assumption) | assumption)
                                                  have q43 : (x13_1 : Int) < ((x11_2.length : Int) : Int) := of_decide_eq_true (by first | (with_reducible assumption) | assumption)
                                                  obtain ⟨go43, co43, eo43, gb43, gl43, cl43, HG43⟩ := Kd.R_form HO_11.out (by omega)
                                                  (first | cases eo43 | (injection eo43 with ea_ en_ ec_; (first | subst ea_ | (injection ea_ with ea_; subst ea_)); subst ec_; clear en_))
                                                  have GB43 := Aside0.mk gb43
                                                  have GG43 := Aside0.mk HG43
                                                  clear gb43 gl43 HG43
                                                  (first | simp only [add_plain] at hx203_0 | skip)
                                                  obtain ⟨hx43_0, hf43_0⟩ := Kd.R_celln 0 HO_11.out (x13_1 : Int) p43 q43
                                                  replace p43 := eq_true p43
                                                  replace q43 := eq_true q43
                                                  have HP47 := Kd.R_putg HO_11.out (x13_1 : Int) (wrap64 ((rd x11_2 (ji33)) + (rd t191 x14_2)))
                                                  go_wp2_with (first | ((with_reducible refine gate_store (t := 3) (p := 108) rfl ?_); (try (rw [drewN_self wc]; generalize hq_ : World.drewN wc _ = wc; have n0_ := Aside0.mk (Kd.R_at hq_ HO_10.out); have n1_ := Aside0.mk (Kd.R_at hq_ HO_11.out); have n2_ := Aside0.mk (Kd.R_at hq_ HO_12.out); have n3_ := Aside0.mk (below_at hq_ HB.out); clear hq_ HO_10 HO_11 HO_12 HB; have HO_10 := n0_; have HO_11 := n1_; have HO_12 := n2_; have HB := n3_; clear n0_ n1_ n2_ n3_; (try (obtain ⟨hy_a, hz_a⟩ := Kd.R_celln 0 HO_11.out (x13_1 : Int) (of_decide_eq_true (by first | (with_reducible assumption) | assumption)) (of_decide_eq_true (by first | (with_reducible assumption) | assumption)))); (try (have HP47 := Kd.R_putg HO_11.out (x13_1 : Int) (wrap64 ((rd x11_2 (ji33)) + (rd t191 x14_2))))))); refine store_event (t := 3) (p := 108) (v := ?vo_w48) (w1 := (wc.setCell ⟨go43, (x13_1 : Int).toNat, none⟩ (.int .i64 (wrap64 ((rd x11_2 (ji33)) + (rd t191 x14_2)))))) ?hg ?ho ?hn ?hr ?_; (case ho => rfl); (case hg => rfl); (case hn => rfl); (case hr => first | (go_simp; done) | (go_simp; rfl)); intro w48 hw; have hg : wc.grownBy w48 (some go43) := (by rw [hw]; exact HP47.2); have hp_ : Kd.R (Kd.int .i64) 3 w48 w.heap.size (fun k_ => some k_ ≠ (.slice (some ad204) t191.length co46 : Value).ownBlock ∧ some k_ ≠ (.slice (some ⟨go17, 0, none⟩) x12_2.length co17 : Value).ownBlock) (.slice (some ⟨go43, 0, none⟩) x11_2.length co45) y207 := (by rw [hw, Ny207.out]; exact HP47.1); clear HP47; have n0_ := Aside0.mk (Kd.R_after (v := (.slice (some ⟨go43, 0, none⟩) x11_2.length co45)) (v1 := (.slice (some ⟨go43, 0, none⟩) x11_2.length co45)) (ok := (fun k_ => some k_ ≠ (.slice (some ⟨go17, 0, none⟩) x12_2.length co17 : Value).ownBlock)) (by (with_reducible repeat (first | apply Kd.R_alloc | apply Kd.R_drewN | apply Kd.R_drew)); exact Kd.R_mono HO_10.out (fun _ hk => ⟨hk.2, hk.1⟩)) hg (.inl rfl)); have n1_ := Aside0.mk (hp_); have n2_ := Aside0.mk (Kd.R_after (v := (.slice (some ⟨go43, 0, none⟩) x11_2.length co45)) (v1 := (.slice (some ⟨go43, 0, none⟩) x11_2.length co45)) (ok := (fun k_ => some k_ ≠ (.slice (some ad204) t191.length co46 : Value).ownBlock)) (by (with_reducible repeat (first | apply Kd.R_alloc | apply Kd.R_drewN | apply Kd.R_drew)); exact HO_12.out) hg (.inl rfl)); have n3_ := Aside0.mk ((by rw [hw]; exact below_set (HB.out) GB43.out : Below w.heap.size w w48)); clear HO_10; clear HO_11; clear HO_12; clear HB; have HO_10 := n0_; have HO_11 := n1_; have HO_12 := n2_; have HB := n3_; clear n0_ n1_ n2_ n3_; clear hg hw hp_; have p44 : 0 ≤ (x13_1 : Int) := of_decide_eq_true (by first | (with_reducible assumption) | assumption); have q44 : (x13_1 : Int) < ((x12_2.length : Int) : Int) := of_decide_eq_true (by first | (with_reducible assumption) | assumption); obtain ⟨hx44_0, hf44_0⟩ := Kd.R_celln 0 HO_12.out (x13_1 : Int) p44 q44; replace p44 := eq_true p44; replace q44 := eq_true q44; obtain ⟨hy49_, hz49_⟩ := Kd.R_celln 0 HO_12.out (x13_1 : Int) (of_decide_eq_true (by first | (with_reducible assumption) | assumption)) (of_decide_eq_true (by first | (with_reducible assumption) | assumption)); have HP49 := Kd.R_putg HO_12.out (x13_1 : Int) (wrap64 ((rd x12_2 (ji33)) + 1))) | ((with_reducible refine gate_store (t := 3) (p := 112) rfl ?_); (try (rw [drewN_self w48]; generalize hq_ : World.drewN w48 _ = w48; have n0_ := Aside0.mk (Kd.R_at hq_ HO_10.out); have n1_ := Aside0.mk (Kd.R_at hq_ HO_11.out); have n2_ := Aside0.mk (Kd.R_at hq_ HO_12.out); have n3_ := Aside0.mk (below_at hq_ HB.out); clear hq_ HO_10 HO_11 HO_12 HB; have HO_10 := n0_; have HO_11 := n1_; have HO_12 := n2_; have HB := n3_; clear n0_ n1_ n2_ n3_; (try (obtain ⟨hy49_, hz49_⟩ := Kd.R_celln 0 HO_12.out (x13_1 : Int) (of_decide_eq_true (by first | (with_reducible assumption) | assumption)) (of_decide_eq_true (by first | (with_reducible assumption) | assumption)))); (try (have HP49 := Kd.R_putg HO_12.out (x13_1 : Int) (wrap64 ((rd x12_2 (ji33)) + 1)))))); refine store_event (t := 3) (p := 112) (v := ?vo_w50) (w1 := (w48.setCell ⟨go17, (x13_1 : Int).toNat, none⟩ (.int .i64 (wrap64 ((rd x12_2 (ji33)) + 1))))) ?hg ?ho ?hn ?hr ?_; (case ho => rfl); (case hg => rfl); (case hn => rfl); (case hr => first | (go_simp; done) | (go_simp; rfl)); intro w50 hw; have hg : w48.grownBy w50 (some go17) := (by rw [hw]; exact HP49.2); have hp_ : Kd.R (Kd.int .i64) 3 w50 w.heap.size (fun k_ => some k_ ≠ (.slice (some ad204) t191.length co46 : Value).ownBlock ∧ some k_ ≠ (.slice (some ⟨go43, 0, none⟩) x11_2.length co45 : Value).ownBlock) (.slice (some ⟨go17, 0, none⟩) x12_2.length co17) y208 := (by rw [hw, Ny208.out]; exact HP49.1); clear HP49; have n0_ := Aside0.mk (Kd.R_after (v := (.slice (some ⟨go17, 0, none⟩) x12_2.length co17)) (v1 := (.slice (some ⟨go17, 0, none⟩) x12_2.length co17)) (ok := (fun k_ => some k_ ≠ (.slice (some ⟨go43, 0, none⟩) x11_2.length co45 : Value).ownBlock)) (by (with_reducible repeat (first | apply Kd.R_alloc | apply Kd.R_drewN | apply Kd.R_drew)); exact Kd.R_mono HO_10.out (fun _ hk => ⟨hk.2, hk.1⟩)) hg (.inl rfl)); have n1_ := Aside0.mk (Kd.R_after (v := (.slice (some ⟨go17, 0, none⟩) x12_2.length co17)) (v1 := (.slice (some ⟨go17, 0, none⟩) x12_2.length co17)) (ok := (fun k_ => some k_ ≠ (.slice (some ad204) t191.length co46 : Value).ownBlock)) (by (with_reducible repeat (first | apply Kd.R_alloc | apply Kd.R_drewN | apply Kd.R_drew)); exact HO_11.out) hg (.inl rfl)); have n2_ := Aside0.mk (hp_); have n3_ := Aside0.mk ((by rw [hw]; exact below_set (HB.out) GB17.out : Below w.heap.size w w50)); clear HO_10; clear HO_11; clear HO_12; clear HB; have HO_10 := n0_; have HO_11 := n1_; have HO_12 := n2_; have HB := n3_; clear n0_ n1_ n2_ n3_; clear hg hw hp_))
                                                  repeat (go_quiet (first | ((with_reducible refine gate_store (t := 3) (p := 108) rfl ?_); (try (rw [drewN_self wc]; generalize hq_ : World.drewN wc _ = wc; have n0_ := Aside0.mk (Kd.R_at hq_ HO_10.out); have n1_ := Aside0.mk (Kd.R_at hq_ HO_11.out); have n2_ := Aside0.mk (Kd.R_at hq_ HO_12.out); have n3_ := Aside0.mk (below_at hq_ HB.out); clear hq_ HO_10 HO_11 HO_12 HB; have HO_10 := n0_; have HO_11 := n1_; have HO_12 := n2_; have HB := n3_; clear n0_ n1_ n2_ n3_; (try (obtain ⟨hy_a, hz_a⟩ := Kd.R_celln 0 HO_11.out (x13_1 : Int) (of_decide_eq_true (by first | (with_reducible assumption) | assumption)) (of_decide_eq_true (by first | (with_reducible assumption) | assumption)))); (try (have HP47 := Kd.R_putg HO_11.out (x13_1 : Int) (wrap64 ((rd x11_2 (ji33)) + (rd t191 x14_2))))))); refine store_event (t := 3) (p := 108) (v := ?vo_w48) (w1 := (wc.setCell ⟨go43, (x13_1 : Int).toNat, none⟩ (.int .i64 (wrap64 ((rd x11_2 (ji33)) + (rd t191 x14_2)))))) ?hg ?ho ?hn ?hr ?_; (case ho => rfl); (case hg => rfl); (case hn => rfl); (case hr => first | (go_simp; done) | (go_simp; rfl)); intro w48 hw; have hg : wc.grownBy w48 (some go43) := (by rw [hw]; exact HP47.2); have hp_ : Kd.R (Kd.int .i64) 3 w48 w.heap.size (fun k_ => some k_ ≠ (.slice (some ad204) t191.length co46 : Value).ownBlock ∧ some k_ ≠ (.slice (some ⟨go17, 0, none⟩) x12_2.length co17 : Value).ownBlock) (.slice (some ⟨go43, 0, none⟩) x11_2.length co45) y207 := (by rw [hw, Ny207.out]; exact HP47.1); clear HP47; have n0_ := Aside0.mk (Kd.R_after (v := (.slice (some ⟨go43, 0, none⟩) x11_2.length co45)) (v1 := (.slice (some ⟨go43, 0, none⟩) x11_2.length co45)) (ok := (fun k_ => some k_ ≠ (.slice (some ⟨go17, 0, none⟩) x12_2.length co17 : Value).ownBlock)) (by (with_reducible repeat (first | apply Kd.R_alloc | apply Kd.R_drewN | apply Kd.R_drew)); exact Kd.R_mono HO_10.out (fun _ hk => ⟨hk.2, hk.1⟩)) hg (.inl rfl)); have n1_ := Aside0.mk (hp_); have n2_ := Aside0.mk (Kd.R_after (v := (.slice (some ⟨go43, 0, none⟩) x11_2.length co45)) (v1 := (.slice (some ⟨go43, 0, none⟩) x11_2.length co45)) (ok := (fun k_ => some k_ ≠ (.slice (some ad204) t191.length co46 : Value).ownBlock)) (by (with_reducible repeat (first | apply Kd.R_alloc | apply Kd.R_drewN | apply Kd.R_drew)); exact HO_12.out) hg (.inl rfl)); have n3_ := Aside0.mk ((by rw [hw]; exact below_set (HB.out) GB43.out : Below w.heap.size w w48)); clear HO_10; clear HO_11; clear HO_12; clear HB; have HO_10 := n0_; have HO_11 := n1_; have HO_12 := n2_; have HB := n3_; clear n0_ n1_ n2_ n3_; clear hg hw hp_; have p44 : 0 ≤ (x13_1 : Int) := of_decide_eq_true (by first | (with_reducible assumption) | assumption); have q44 : (x13_1 : Int) < ((x12_2.length : Int) : Int) := of_decide_eq_true (by first | (with_reducible assumption) | assumption); obtain ⟨hx44_0, hf44_0⟩ := Kd.R_celln 0 HO_12.out (x13_1 : Int) p44 q44; replace p44 := eq_true p44; replace q44 := eq_true q44; obtain ⟨hy49_, hz49_⟩ := Kd.R_celln 0 HO_12.out (x13_1 : Int) (of_decide_eq_true (by first | (with_reducible assumption) | assumption)) (of_decide_eq_true (by first | (with_reducible assumption) | assumption)); have HP49 := Kd.R_putg HO_12.out (x13_1 : Int) (wrap64 ((rd x12_2 (ji33)) + 1))) | ((with_reducible refine gate_store (t := 3) (p := 112) rfl ?_); (try (rw [drewN_self w48]; generalize hq_ : World.drewN w48 _ = w48; have n0_ := Aside0.mk (Kd.R_at hq_ HO_10.out); have n1_ := Aside0.mk (Kd.R_at hq_ HO_11.out); have n2_ := Aside0.mk (Kd.R_at hq_ HO_12.out); have n3_ := Aside0.mk (below_at hq_ HB.out); clear hq_ HO_10 HO_11 HO_12 HB; have HO_10 := n0_; have HO_11 := n1_; have HO_12 := n2_; have HB := n3_; clear n0_ n1_ n2_ n3_; (try (obtain ⟨hy49_, hz49_⟩ := Kd.R_celln 0 HO_12.out (x13_1 : Int) (of_decide_eq_true (by first | (with_reducible assumption) | assumption)) (of_decide_eq_true (by first | (with_reducible assumption) | assumption)))); (try (have HP49 := Kd.R_putg HO_12.out (x13_1 : Int) (wrap64 ((rd x12_2 (ji33)) + 1)))))); refine store_event (t := 3) (p := 112) (v := ?vo_w50) (w1 := (w48.setCell ⟨go17, (x13_1 : Int).toNat, none⟩ (.int .i64 (wrap64 ((rd x12_2 (ji33)) + 1))))) ?hg ?ho ?hn ?hr ?_; (case ho => rfl); (case hg => rfl); (case hn => rfl); (case hr => first | (go_simp; done) | (go_simp; rfl)); intro w50 hw; have hg : w48.grownBy w50 (some go17) := (by rw [hw]; exact HP49.2); have hp_ : Kd.R (Kd.int .i64) 3 w50 w.heap.size (fun k_ => some k_ ≠ (.slice (some ad204) t191.length co46 : Value).ownBlock ∧ some k_ ≠ (.slice (some ⟨go43, 0, none⟩) x11_2.length co45 : Value).ownBlock) (.slice (some ⟨go17, 0, none⟩) x12_2.length co17) y208 := (by rw [hw, Ny208.out]; exact HP49.1); clear HP49; have n0_ := Aside0.mk (Kd.R_after (v := (.slice (some ⟨go17, 0, none⟩) x12_2.length co17)) (v1 := (.slice (some ⟨go17, 0, none⟩) x12_2.length co17)) (ok := (fun k_ => some k_ ≠ (.slice (some ⟨go43, 0, none⟩) x11_2.length co45 : Value).ownBlock)) (by (with_reducible repeat (first | apply Kd.R_alloc | apply Kd.R_drewN | apply Kd.R_drew)); exact Kd.R_mono HO_10.out (fun _ hk => ⟨hk.2, hk.1⟩)) hg (.inl rfl)); have n1_ := Aside0.mk (Kd.R_after (v := (.slice (some ⟨go17, 0, none⟩) x12_2.length co17)) (v1 := (.slice (some ⟨go17, 0, none⟩) x12_2.length co17)) (ok := (fun k_ => some k_ ≠ (.slice (some ad204) t191.length co46 : Value).ownBlock)) (by (with_reducible repeat (first | apply Kd.R_alloc | apply Kd.R_drewN | apply Kd.R_drew)); exact HO_11.out) hg (.inl rfl)); have n2_ := Aside0.mk (hp_); have n3_ := Aside0.mk ((by rw [hw]; exact below_set (HB.out) GB17.out : Below w.heap.size w w50)); clear HO_10; clear HO_11; clear HO_12; clear HB; have HO_10 := n0_; have HO_11 := n1_; have HO_12 := n2_; have HB := n3_; clear n0_ n1_ n2_ n3_; clear hg hw hp_)); try go_wp2_with (first | ((with_reducible refine gate_store (t := 3) (p := 108) rfl ?_); (try (rw [drewN_self wc]; generalize hq_ : World.drewN wc _ = wc; have n0_ := Aside0.mk (Kd.R_at hq_ HO_10.out); have n1_ := Aside0.mk (Kd.R_at hq_ HO_11.out); have n2_ := Aside0.mk (Kd.R_at hq_ HO_12.out); have n3_ := Aside0.mk (below_at hq_ HB.out); clear hq_ HO_10 HO_11 HO_12 HB; have HO_10 := n0_; have HO_11 := n1_; have HO_12 := n2_; have HB := n3_; clear n0_ n1_ n2_ n3_; (try (obtain ⟨hy_a, hz_a⟩ := Kd.R_celln 0 HO_11.out (x13_1 : Int) (of_decide_eq_true (by first | (with_reducible assumption) | assumption)) (of_decide_eq_true (by first | (with_reducible assumption) | assumption)))); (try (have HP47 := Kd.R_putg HO_11.out (x13_1 : Int) (wrap64 ((rd x11_2 (ji33)) + (rd t191 x14_2))))))); refine store_event (t := 3) (p := 108) (v := ?vo_w48) (w1 := (wc.setCell ⟨go43, (x13_1 : Int).toNat, none⟩ (.int .i64 (wrap64 ((rd x11_2 (ji33)) + (rd t191 x14_2)))))) ?hg ?ho ?hn ?hr ?_; (case ho => rfl); (case hg => rfl); (case hn => rfl); (case hr => first | (go_simp; done) | (go_simp; rfl)); intro w48 hw; have hg : wc.grownBy w48 (some go43) := (by rw [hw]; exact HP47.2); have hp_ : Kd.R (Kd.int .i64) 3 w48 w.heap.size (fun k_ => some k_ ≠ (.slice (some ad204) t191.length co46 : Value).ownBlock ∧ some k_ ≠ (.slice (some ⟨go17, 0, none⟩) x12_2.length co17 : Value).ownBlock) (.slice (some ⟨go43, 0, none⟩) x11_2.length co45) y207 := (by rw [hw, Ny207.out]; exact HP47.1); clear HP47; have n0_ := Aside0.mk (Kd.R_after (v := (.slice (some ⟨go43, 0, none⟩) x11_2.length co45)) (v1 := (.slice (some ⟨go43, 0, none⟩) x11_2.length co45)) (ok := (fun k_ => some k_ ≠ (.slice (some ⟨go17, 0, none⟩) x12_2.length co17 : Value).ownBlock)) (by (with_reducible repeat (first | apply Kd.R_alloc | apply Kd.R_drewN | apply Kd.R_drew)); exact Kd.R_mono HO_10.out (fun _ hk => ⟨hk.2, hk.1⟩)) hg (.inl rfl)); have n1_ := Aside0.mk (hp_); have n2_ := Aside0.mk (Kd.R_after (v := (.slice (some ⟨go43, 0, none⟩) x11_2.length co45)) (v1 := (.slice (some ⟨go43, 0, none⟩) x11_2.length co45)) (ok := (fun k_ => some k_ ≠ (.slice (some ad204) t191.length co46 : Value).ownBlock)) (by (with_reducible repeat (first | apply Kd.R_alloc | apply Kd.R_drewN | apply Kd.R_drew)); exact HO_12.out) hg (.inl rfl)); have n3_ := Aside0.mk ((by rw [hw]; exact below_set (HB.out) GB43.out : Below w.heap.size w w48)); clear HO_10; clear HO_11; clear HO_12; clear HB; have HO_10 := n0_; have HO_11 := n1_; have HO_12 := n2_; have HB := n3_; clear n0_ n1_ n2_ n3_; clear hg hw hp_; have p44 : 0 ≤ (x13_1 : Int) := of_decide_eq_true (by first | (with_reducible assumption) | assumption); have q44 : (x13_1 : Int) < ((x12_2.length : Int) : Int) := of_decide_eq_true (by first | (with_reducible assumption) | assumption); obtain ⟨hx44_0, hf44_0⟩ := Kd.R_celln 0 HO_12.out (x13_1 : Int) p44 q44; replace p44 := eq_true p44; replace q44 := eq_true q44; obtain ⟨hy49_, hz49_⟩ := Kd.R_celln 0 HO_12.out (x13_1 : Int) (of_decide_eq_true (by first | (with_reducible assumption) | assumption)) (of_decide_eq_true (by first | (with_reducible assumption) | assumption)); have HP49 := Kd.R_putg HO_12.out (x13_1 : Int) (wrap64 ((rd x12_2 (ji33)) + 1))) | ((with_reducible refine gate_store (t := 3) (p := 112) rfl ?_); (try (rw [drewN_self w48]; generalize hq_ : World.drewN w48 _ = w48; have n0_ := Aside0.mk (Kd.R_at hq_ HO_10.out); have n1_ := Aside0.mk (Kd.R_at hq_ HO_11.out); have n2_ := Aside0.mk (Kd.R_at hq_ HO_12.out); have n3_ := Aside0.mk (below_at hq_ HB.out); clear hq_ HO_10 HO_11 HO_12 HB; have HO_10 := n0_; have HO_11 := n1_; have HO_12 := n2_; have HB := n3_; clear n0_ n1_ n2_ n3_; (try (obtain ⟨hy49_, hz49_⟩ := Kd.R_celln 0 HO_12.out (x13_1 : Int) (of_decide_eq_true (by first | (with_reducible assumption) | assumption)) (of_decide_eq_true (by first | (with_reducible assumption) | assumption)))); (try (have HP49 := Kd.R_putg HO_12.out (x13_1 : Int) (wrap64 ((rd x12_2 (ji33)) + 1)))))); refine store_event (t := 3) (p := 112) (v := ?vo_w50) (w1 := (w48.setCell ⟨go17, (x13_1 : Int).toNat, none⟩ (.int .i64 (wrap64 ((rd x12_2 (ji33)) + 1))))) ?hg ?ho ?hn ?hr ?_; (case ho => rfl); (case hg => rfl); (case hn => rfl); (case hr => first | (go_simp; done) | (go_simp; rfl)); intro w50 hw; have hg : w48.grownBy w50 (some go17) := (by rw [hw]; exact HP49.2); have hp_ : Kd.R (Kd.int .i64) 3 w50 w.heap.size (fun k_ => some k_ ≠ (.slice (some ad204) t191.length co46 : Value).ownBlock ∧ some k_ ≠ (.slice (some ⟨go43, 0, none⟩) x11_2.length co45 : Value).ownBlock) (.slice (some ⟨go17, 0, none⟩) x12_2.length co17) y208 := (by rw [hw, Ny208.out]; exact HP49.1); clear HP49; have n0_ := Aside0.mk (Kd.R_after (v := (.slice (some ⟨go17, 0, none⟩) x12_2.length co17)) (v1 := (.slice (some ⟨go17, 0, none⟩) x12_2.length co17)) (ok := (fun k_ => some k_ ≠ (.slice (some ⟨go43, 0, none⟩) x11_2.length co45 : Value).ownBlock)) (by (with_reducible repeat (first | apply Kd.R_alloc | apply Kd.R_drewN | apply Kd.R_drew)); exact Kd.R_mono HO_10.out (fun _ hk => ⟨hk.2, hk.1⟩)) hg (.inl rfl)); have n1_ := Aside0.mk (Kd.R_after (v := (.slice (some ⟨go17, 0, none⟩) x12_2.length co17)) (v1 := (.slice (some ⟨go17, 0, none⟩) x12_2.length co17)) (ok := (fun k_ => some k_ ≠ (.slice (some ad204) t191.length co46 : Value).ownBlock)) (by (with_reducible repeat (first | apply Kd.R_alloc | apply Kd.R_drewN | apply Kd.R_drew)); exact HO_11.out) hg (.inl rfl)); have n2_ := Aside0.mk (hp_); have n3_ := Aside0.mk ((by rw [hw]; exact below_set (HB.out) GB17.out : Below w.heap.size w w50)); clear HO_10; clear HO_11; clear HO_12; clear HB; have HO_10 := n0_; have HO_11 := n1_; have HO_12 := n2_; have HB := n3_; clear n0_ n1_ n2_ n3_; clear hg hw hp_)))
                                                  (try simp only [← hl12_2])
                                                  go_roundg kj22
                                                  case measure => have := HK1.out; have := HK2.out; have := HJ19.out; have := HJ22.out; omega
                                                  case rel => exact ⟨(y207), (y208), (wrap64 (x14_2 + 1)), (by first | rfl | (simp; done) | (simp [*]; done)), H', ⟨by have := HK1.out; have := HK2.out; have := HJ19.out; have := HJ22.out; omega⟩, ⟨by (try simp only [hl12_2]); (with_reducible repeat (first | apply Kd.R_alloc | apply Kd.R_drewN | apply Kd.R_drew)); exact HO_10.out⟩, ⟨by (try simp only [hl12_2]); (with_reducible repeat (first | apply Kd.R_alloc | apply Kd.R_drewN | apply Kd.R_drew)); exact HO_11.out⟩, ⟨by (try simp only [hl12_2]); (with_reducible repeat (first | apply Kd.R_alloc | apply Kd.R_drewN | apply Kd.R_drew)); exact HO_12.out⟩, ⟨by repeat (first | (with_reducible first | exact HB.out | apply below_alloc | apply pw_below_drewN | apply below_drew1) | exact HB.out)⟩⟩
                                                · rw [if_neg c42] at H
                                                  exact absurd H (by simp)
                                              · rw [if_neg c41] at H
                                                have c41b0 : decide ((rd x12_2 x13_1) < 0) = false := decide_eq_false c41
                                                clear c41
                                                by_cases c51 : x13_1 < (x11_2.length : Int)
                                                · rw [if_pos c51] at H
                                                  have c51b0 : decide (x13_1 < (x11_2.length : Int)) = true := decide_eq_true c51
                                                  clear c51
                                                  by_cases c52 : (wrap64 ((rd x11_2 (ji33)) + (rd t191 x14_2))) < (rd x11_2 x13_1)
                                                  · rw [if_pos c52] at H
                                                    have c52b0 : decide ((wrap64 ((rd x11_2 (ji33)) + (rd t191 x14_2))) < (rd x11_2 x13_1)) = true := decide_eq_true c52
                                                    clear c52
                                                    obtain ⟨y210, hy210⟩ : ∃ y_ : List Int, y_ = (x11_2.set (x13_1 : Int).toNat (wrap64 ((rd x11_2 (ji33)) + (rd t191 x14_2)))) := ⟨_, rfl⟩
                                                    replace H : (spec_wrLeast.l1 kj22 a0 a1 a2 t191 y210 (x12_2.set (x13_1 : Int).toNat (wrap64 ((rd x12_2 (ji33)) + 1))) x13_1 (wrap64 (x14_2 + 1))) = some (r1, r2) := by first | (rw [hy210]; with_reducible exact H) | (have H2_ := (Option.bind_some _ _).symm.trans H; rw [hy210]; with_reducible exact H2_) | (have H2_ := (Option.bind_some _ _).symm.trans H; with_reducible exact H2_) | with_reducible exact H | (rw [hy210]; exact H) | exact H
                                                    have Ny210 := Aside0.mk hy210
                                                    clear hy210
                                                    obtain ⟨y211, hy211⟩ : ∃ y_ : List Int, y_ = (x12_2.set (x13_1 : Int).toNat (wrap64 ((rd x12_2 (ji33)) + 1))) := ⟨_, rfl⟩
                                                    replace H : (spec_wrLeast.l1 kj22 a0 a1 a2 t191 y210 y211 x13_1 (wrap64 (x14_2 + 1))) = some (r1, r2) := by first | (rw [hy211]; with_reducible exact H) | (have H2_ := (Option.bind_some _ _).symm.trans H; rw [hy211]; with_reducible exact H2_) | (have H2_ := (Option.bind_some _ _).symm.trans H; with_reducible exact H2_) | with_reducible exact H | (rw [hy211]; exact H) | exact H
                                                    have Ny211 := Aside0.mk hy211
                                                    clear hy211
                                                    have H' := Aside0.mk H
                                                    clear H
                                                    obtain ⟨Ao55, co55, eo55⟩ := Kd.R_slice HO_11.out
                                                    subst eo55
                                                    have p203 : 0 ≤ ((ji33) : Int) := of_decide_eq_true (by first | (with_reducible assumption) | assumption)
                                                    have q203 : (ji33) < (x11_2.length : Int) := of_decide_eq_true (by first | (with_reducible assumption) | assumption)
                                                    obtain ⟨ad203, e203, hx203_0⟩ := Kd.at_int (Kd.R_reads' HO_11.out).2.2 (ji33) p203 q203
                                                    cases e203
                                                    replace p203 := eq_true p203
                                                    replace q203 := eq_true q203
                                                    obtain ⟨Ao56, co56, eo56⟩ := Kd.R_slice HO_10.out
                                                    subst eo56
                                                    have p204 : 0 ≤ (x14_2 : Int) := of_decide_eq_true (by first | (with_reducible assumption) | assumption)
                                                    have q204 : x14_2 < (t191.length : Int) := of_decide_eq_true (by first | (with_reducible assumption) | assumption)
                                                    obtain ⟨ad204, e204, hx204_0⟩ := Kd.at_int (Kd.R_reads' HO_10.out).2.2 x14_2 p204 q204
                                                    cases e204
                                                    replace p204 := eq_true p204
                                                    replace q204 := eq_true q204
                                                    have p205 : 0 ≤ ((ji33) : Int) := of_decide_eq_true (by first | (with_reducible assumption) | assumption)
                                                    have q205 : (ji33) < (x12_2.length : Int) := of_decide_eq_true (by first | (with_reducible assumption) | assumption)
                                                    obtain ⟨ad205, e205, hx205_0⟩ := Kd.at_int (Kd.R_reads' HO_12.out).2.2 (ji33) p205 q205
                                                    obtain rfl : (⟨go17, 0, none⟩ : Addr) = ad205 := (by injection e205)
                                                    (first | simp only [add_plain] at hx205_0 | simp only [add_at] at hx205_0 | simp only [Addr.add, Nat.zero_add] at hx205_0 | skip)
                                                    replace p205 := eq_true p205
                                                    replace q205 := eq_true q205
                                                    have p206 : 0 ≤ (x13_1 : Int) := of_decide_eq_true (by first | (with_reducible assumption) | assumption)
                                                    have q206 : x13_1 < (x12_2.length : Int) := of_decide_eq_true (by first | (with_reducible assumption) | assumption)
                                                    obtain ⟨ad206, e206, hx206_0⟩ := Kd.at_int (Kd.R_reads' HO_12.out).2.2 x13_1 p206 q206
                                                    obtain rfl : (⟨go17, 0, none⟩ : Addr) = ad206 := (by injection e206)
                                                    (first | simp only [add_plain] at hx206_0 | simp only [add_at] at hx206_0 | simp only [Addr.add, Nat.zero_add] at hx206_0 | skip)
                                                    replace p206 := eq_true p206
                                                    replace q206 := eq_true q206
                                                    have p209 : 0 ≤ (x13_1 : Int) := of_decide_eq_true (by first | (with_reducible assumption) | assumption)
                                                    have q209 : x13_1 < (x11_2.length : Int) := of_decide_eq_true (by first | (with_reducible assumption) | assumption)
                                                    obtain ⟨ad209, e209, hx209_0⟩ := Kd.at_int (Kd.R_reads' HO_11.out).2.2 x13_1 p209 q209
                                                    obtain rfl : ad203 = ad209 := (by injection e209)
                                                    replace p209 := eq_true p209
                                                    replace q209 := eq_true q209
                                                    have p53 : 0 ≤ (x13_1 : Int) := of_decide_eq_true (by first | (with_reducible assumption) | assumption)
                                                    have q53 : (x13_1 : Int) < ((x11_2.length : Int) : Int) := of_decide_eq_true (by first | (with_reducible assumption) | assumption)
                                                    obtain ⟨go53, co53, eo53, gb53, gl53, cl53, HG53⟩ := Kd.R_form HO_11.out (by omega)
                                                    (first | cases eo53 | (injection eo53 with ea_ en_ ec_; (first | subst ea_ | (injection ea_ with ea_; subst ea_)); subst ec_; clear en_))
                                                    have GB53 := Aside0.mk gb53
                                                    have GG53 := Aside0.mk HG53
                                                    clear gb53 gl53 HG53
                                                    (first | simp only [add_plain] at hx203_0 | skip)
                                                    (first | simp only [add_plain] at hx209_0 | skip)
                                                    obtain ⟨hx53_0, hf53_0⟩ := Kd.R_celln 0 HO_11.out (x13_1 : Int) p53 q53
                                                    replace p53 := eq_true p53
                                                    replace q53 := eq_true q53
                                                    have HP57 := Kd.R_putg HO_11.out (x13_1 : Int) (wrap64 ((rd x11_2 (ji33)) + (rd t191 x14_2)))
                                                    go_wp2_with (first | ((with_reducible refine gate_store (t := 3) (p := 108) rfl ?_); (try (rw [drewN_self wc]; generalize hq_ : World.drewN wc _ = wc; have n0_ := Aside0.mk (Kd.R_at hq_ HO_10.out); have n1_ := Aside0.mk (Kd.R_at hq_ HO_11.out); have n2_ := Aside0.mk (Kd.R_at hq_ HO_12.out); have n3_ := Aside0.mk (below_at hq_ HB.out); clear hq_ HO_10 HO_11 HO_12 HB; have HO_10 := n0_; have HO_11 := n1_; have HO_12 := n2_; have HB := n3_; clear n0_ n1_ n2_ n3_; (try (obtain ⟨hy_a, hz_a⟩ := Kd.R_celln 0 HO_11.out (x13_1 : Int) (of_decide_eq_true (by first | (with_reducible assumption) | assumption)) (of_decide_eq_true (by first | (with_reducible assumption) | assumption)))); (try (have HP57 := Kd.R_putg HO_11.out (x13_1 : Int) (wrap64 ((rd x11_2 (ji33)) + (rd t191 x14_2))))))); refine store_event (t := 3) (p := 108) (v := ?vo_w58) (w1 := (wc.setCell ⟨go53, (x13_1 : Int).toNat, none⟩ (.int .i64 (wrap64 ((rd x11_2 (ji33)) + (rd t191 x14_2)))))) ?hg ?ho ?hn ?hr ?_; (case ho => rfl); (case hg => rfl); (case hn => rfl); (case hr => first | (go_simp; done) | (go_simp; rfl)); intro w58 hw; have hg : wc.grownBy w58 (some go53) := (by rw [hw]; exact HP57.2); have hp_ : Kd.R (Kd.int .i64) 3 w58 w.heap.size (fun k_ => some k_ ≠ (.slice (some ad204) t191.length co56 : Value).ownBlock ∧ some k_ ≠ (.slice (some ⟨go17, 0, none⟩) x12_2.length co17 : Value).ownBlock) (.slice (some ⟨go53, 0, none⟩) x11_2.length co55) y210 := (by rw [hw, Ny210.out]; exact HP57.1); clear HP57; have n0_ := Aside0.mk (Kd.R_after (v := (.slice (some ⟨go53, 0, none⟩) x11_2.length co55)) (v1 := (.slice (some ⟨go53, 0, none⟩) x11_2.length co55)) (ok := (fun k_ => some k_ ≠ (.slice (some ⟨go17, 0, none⟩) x12_2.length co17 : Value).ownBlock)) (by (with_reducible repeat (first | apply Kd.R_alloc | apply Kd.R_drewN | apply Kd.R_drew)); exact Kd.R_mono HO_10.out (fun _ hk => ⟨hk.2, hk.1⟩)) hg (.inl rfl)); have n1_ := Aside0.mk (hp_); have n2_ := Aside0.mk (Kd.R_after (v := (.slice (some ⟨go53, 0, none⟩) x11_2.length co55)) (v1 := (.slice (some ⟨go53, 0, none⟩) x11_2.length co55)) (ok := (fun k_ => some k_ ≠ (.slice (some ad204) t191.length co56 : Value).ownBlock)) (by (with_reducible repeat (first | apply Kd.R_alloc | apply Kd.R_drewN | apply Kd.R_drew)); exact HO_12.out) hg (.inl rfl)); have n3_ := Aside0.mk ((by rw [hw]; exact below_set (HB.out) GB53.out : Below w.heap.size w w58)); clear HO_10; clear HO_11; clear HO_12; clear HB; have HO_10 := n0_; have HO_11 := n1_; have HO_12 := n2_; have HB := n3_; clear n0_ n1_ n2_ n3_; clear hg hw hp_; have p54 : 0 ≤ (x13_1 : Int) := of_decide_eq_true (by first | (with_reducible assumption) | assumption); have q54 : (x13_1 : Int) < ((x12_2.length : Int) : Int) := of_decide_eq_true (by first | (with_reducible assumption) | assumption); obtain ⟨hx54_0, hf54_0⟩ := Kd.R_celln 0 HO_12.out (x13_1 : Int) p54 q54; replace p54 := eq_true p54; replace q54 := eq_true q54; obtain ⟨hy59_, hz59_⟩ := Kd.R_celln 0 HO_12.out (x13_1 : Int) (of_decide_eq_true (by first | (with_reducible assumption) | assumption)) (of_decide_eq_true (by first | (with_reducible assumption) | assumption)); have HP59 := Kd.R_putg HO_12.out (x13_1 : Int) (wrap64 ((rd x12_2 (ji33)) + 1))) | ((with_reducible refine gate_store (t := 3) (p := 112) rfl ?_); (try (rw [drewN_self w58]; generalize hq_ : World.drewN w58 _ = w58; have n0_ := Aside0.mk (Kd.R_at hq_ HO_10.out); have n1_ := Aside0.mk (Kd.R_at hq_ HO_11.out); have n2_ := Aside0.mk (Kd.R_at hq_ HO_12.out); have n3_ := Aside0.mk (below_at hq_ HB.out); clear hq_ HO_10 HO_11 HO_12 HB; have HO_10 := n0_; have HO_11 := n1_; have HO_12 := n2_; have HB := n3_; clear n0_ n1_ n2_ n3_; (try (obtain ⟨hy59_, hz59_⟩ := Kd.R_celln 0 HO_12.out (x13_1 : Int) (of_decide_eq_true (by first | (with_reducible assumption) | assumption)) (of_decide_eq_true (by first | (with_reducible assumption) | assumption)))); (try (have HP59 := Kd.R_putg HO_12.out (x13_1 : Int) (wrap64 ((rd x12_2 (ji33)) + 1)))))); refine store_event (t := 3) (p := 112) (v := ?vo_w60) (w1 := (w58.setCell ⟨go17, (x13_1 : Int).toNat, none⟩ (.int .i64 (wrap64 ((rd x12_2 (ji33)) + 1))))) ?hg ?ho ?hn ?hr ?_; (case ho => rfl); (case hg => rfl); (case hn => rfl); (case hr => first | (go_simp; done) | (go_simp; rfl)); intro w60 hw; have hg : w58.grownBy w60 (some go17) := (by rw [hw]; exact HP59.2); have hp_ : Kd.R (Kd.int .i64) 3 w60 w.heap.size (fun k_ => some k_ ≠ (.slice (some ad204) t191.length co56 : Value).ownBlock ∧ some k_ ≠ (.slice (some ⟨go53, 0, none⟩) x11_2.length co55 : Value).ownBlock) (.slice (some ⟨go17, 0, none⟩) x12_2.length co17) y211 := (by rw [hw, Ny211.out]; exact HP59.1); clear HP59; have n0_ := Aside0.mk (Kd.R_after (v := (.slice (some ⟨go17, 0, none⟩) x12_2.length co17)) (v1 := (.slice (some ⟨go17, 0, none⟩) x12_2.length co17)) (ok := (fun k_ => some k_ ≠ (.slice (some ⟨go53, 0, none⟩) x11_2.length co55 : Value).ownBlock)) (by (with_reducible repeat (first | apply Kd.R_alloc | apply Kd.R_drewN | apply Kd.R_drew)); exact Kd.R_mono HO_10.out (fun _ hk => ⟨hk.2, hk.1⟩)) hg (.inl rfl)); have n1_ := Aside0.mk (Kd.R_after (v := (.slice (some ⟨go17, 0, none⟩) x12_2.length co17)) (v1 := (.slice (some ⟨go17, 0, none⟩) x12_2.length co17)) (ok := (fun k_ => some k_ ≠ (.slice (some ad204) t191.length co56 : Value).ownBlock)) (by (with_reducible repeat (first | apply Kd.R_alloc | apply Kd.R_drewN | apply Kd.R_drew)); exact HO_11.out) hg (.inl rfl)); have n2_ := Aside0.mk (hp_); have n3_ := Aside0.mk ((by rw [hw]; exact below_set (HB.out) GB17.out : Below w.heap.size w w60)); clear HO_10; clear HO_11; clear HO_12; clear HB; have HO_10 := n0_; have HO_11 := n1_; have HO_12 := n2_; have HB := n3_; clear n0_ n1_ n2_ n3_; clear hg hw hp_))
                                                    repeat (go_quiet (first | ((with_reducible refine gate_store (t := 3) (p := 108) rfl ?_); (try (rw [drewN_self wc]; generalize hq_ : World.drewN wc _ = wc; have n0_ := Aside0.mk (Kd.R_at hq_ HO_10.out); have n1_ := Aside0.mk (Kd.R_at hq_ HO_11.out); have n2_ := Aside0.mk (Kd.R_at hq_ HO_12.out); have n3_ := Aside0.mk (below_at hq_ HB.out); clear hq_ HO_10 HO_11 HO_12 HB; have HO_10 := n0_; have HO_11 := n1_; have HO_12 := n2_; have HB := n3_; clear n0_ n1_ n2_ n3_; (try (obtain ⟨hy_a, hz_a⟩ := Kd.R_celln 0 HO_11.out (x13_1 : Int) (of_decide_eq_true (by first | (with_reducible assumption) | assumption)) (of_decide_eq_true (by first | (with_reducible assumption) | assumption)))); (try (have HP57 := Kd.R_putg HO_11.out (x13_1 : Int) (wrap64 ((rd x11_2 (ji33)) + (rd t191 x14_2))))))); refine store_event (t := 3) (p := 108) (v := ?vo_w58) (w1 := (wc.setCell ⟨go53, (x13_1 : Int).toNat, none⟩ (.int .i64 (wrap64 ((rd x11_2 (ji33)) + (rd t191 x14_2)))))) ?hg ?ho ?hn ?hr ?_; (case ho => rfl); (case hg => rfl); (case hn => rfl); (case hr => first | (go_simp; done) | (go_simp; rfl)); intro w58 hw; have hg : wc.grownBy w58 (some go53) := (by rw [hw]; exact HP57.2); have hp_ : Kd.R (Kd.int .i64) 3 w58 w.heap.size (fun k_ => some k_ ≠ (.slice (some ad204) t191.length co56 : Value).ownBlock ∧ some k_ ≠ (.slice (some ⟨go17, 0, none⟩) x12_2.length co17 : Value).ownBlock) (.slice (some ⟨go53, 0, none⟩) x11_2.length co55) y210 := (by rw [hw, Ny210.out]; exact HP57.1); clear HP57; have n0_ := Aside0.mk (Kd.R_after (v := (.slice (some ⟨go53, 0, none⟩) x11_2.length co55)) (v1 := (.slice (some ⟨go53, 0, none⟩) x11_2.length co55)) (ok := (fun k_ => some k_ ≠ (.slice (some ⟨go17, 0, none⟩) x12_2.length co17 : Value).ownBlock)) (by (with_reducible repeat (first | apply Kd.R_alloc | apply Kd.R_drewN | apply Kd.R_drew)); exact Kd.R_mono HO_10.out (fun _ hk => ⟨hk.2, hk.1⟩)) hg (.inl rfl)); have n1_ := Aside0.mk (hp_); have n2_ := Aside0.mk (Kd.R_after (v := (.slice (some ⟨go53, 0, none⟩) x11_2.length co55)) (v1 := (.slice (some ⟨go53, 0, none⟩) x11_2.length co55)) (ok := (fun k_ => some k_ ≠ (.slice (some ad204) t191.length co56 : Value).ownBlock)) (by (with_reducible repeat (first | apply Kd.R_alloc | apply Kd.R_drewN | apply Kd.R_drew)); exact HO_12.out) hg (.inl rfl)); have n3_ := Aside0.mk ((by rw [hw]; exact below_set (HB.out) GB53.out : Below w.heap.size w w58)); clear HO_10; clear HO_11; clear HO_12; clear HB; have HO_10 := n0_; have HO_11 := n1_; have HO_12 := n2_; have HB := n3_; clear n0_ n1_ n2_ n3_; clear hg hw hp_; have p54 : 0 ≤ (x13_1 : Int) := of_decide_eq_true (by first | (with_reducible assumption) | assumption); have q54 : (x13_1 : Int) < ((x12_2.length : Int) : Int) := of_decide_eq_true (by first | (with_reducible assumption) | assumption); obtain ⟨hx54_0, hf54_0⟩ := Kd.R_celln 0 HO_12.out (x13_1 : Int) p54 q54; replace p54 := eq_true p54; replace q54 := eq_true q54; obtain ⟨hy59_, hz59_⟩ := Kd.R_celln 0 HO_12.out (x13_1 : Int) (of_decide_eq_true (by first | (with_reducible assumption) | assumption)) (of_decide_eq_true (by first | (with_reducible assumption) | assumption)); have HP59 := Kd.R_putg HO_12.out (x13_1 : Int) (wrap64 ((rd x12_2 (ji33)) + 1))) | ((with_reducible refine gate_store (t := 3) (p := 112) rfl ?_); (try (rw [drewN_self w58]; generalize hq_ : World.drewN w58 _ = w58; have n0_ := Aside0.mk (Kd.R_at hq_ HO_10.out); have n1_ := Aside0.mk (Kd.R_at hq_ HO_11.out); have n2_ := Aside0.mk (Kd.R_at hq_ HO_12.out); have n3_ := Aside0.mk (below_at hq_ HB.out); clear hq_ HO_10 HO_11 HO_12 HB; have HO_10 := n0_; have HO_11 := n1_; have HO_12 := n2_; have HB := n3_; clear n0_ n1_ n2_ n3_; (try (obtain ⟨hy59_, hz59_⟩ := Kd.R_celln 0 HO_12.out (x13_1 : Int) (of_decide_eq_true (by first | (with_reducible assumption) | assumption)) (of_decide_eq_true (by first | (with_reducible assumption) | assumption)))); (try (have HP59 := Kd.R_putg HO_12.out (x13_1 : Int) (wrap64 ((rd x12_2 (ji33)) + 1)))))); refine store_event (t := 3) (p := 112) (v := ?vo_w60) (w1 := (w58.setCell ⟨go17, (x13_1 : Int).toNat, none⟩ (.int .i64 (wrap64 ((rd x12_2 (ji33)) + 1))))) ?hg ?ho ?hn ?hr ?_; (case ho => rfl); (case hg => rfl); (case hn => rfl); (case hr => first | (go_simp; done) | (go_simp; rfl)); intro w60 hw; have hg : w58.grownBy w60 (some go17) := (by rw [hw]; exact HP59.2); have hp_ : Kd.R (Kd.int .i64) 3 w60 w.heap.size (fun k_ => some k_ ≠ (.slice (some ad204) t191.length co56 : Value).ownBlock ∧ some k_ ≠ (.slice (some ⟨go53, 0, none⟩) x11_2.length co55 : Value).ownBlock) (.slice (some ⟨go17, 0, none⟩) x12_2.length co17) y211 := (by rw [hw, Ny211.out]; exact HP59.1); clear HP59; have n0_ := Aside0.mk (Kd.R_after (v := (.slice (some ⟨go17, 0, none⟩) x12_2.length co17)) (v1 := (.slice (some ⟨go17, 0, none⟩) x12_2.length co17)) (ok := (fun k_ => some k_ ≠ (.slice (some ⟨go53, 0, none⟩) x11_2.length co55 : Value).ownBlock)) (by (with_reducible repeat (first | apply Kd.R_alloc | apply Kd.R_drewN | apply Kd.R_drew)); exact Kd.R_mono HO_10.out (fun _ hk => ⟨hk.2, hk.1⟩)) hg (.inl rfl)); have n1_ := Aside0.mk (Kd.R_after (v := (.slice (some ⟨go17, 0, none⟩) x12_2.length co17)) (v1 := (.slice (some ⟨go17, 0, none⟩) x12_2.length co17)) (ok := (fun k_ => some k_ ≠ (.slice (some ad204) t191.length co56 : Value).ownBlock)) (by (with_reducible repeat (first | apply Kd.R_alloc | apply Kd.R_drewN | apply Kd.R_drew)); exact HO_11.out) hg (.inl rfl)); have n2_ := Aside0.mk (hp_); have n3_ := Aside0.mk ((by rw [hw]; exact below_set (HB.out) GB17.out : Below w.heap.size w w60)); clear HO_10; clear HO_11; clear HO_12; clear HB; have HO_10 := n0_; have HO_11 := n1_; have HO_12 := n2_; have HB := n3_; clear n0_ n1_ n2_ n3_; clear hg hw hp_)); try go_wp2_with (first | ((with_reducible refine gate_store (t := 3) (p := 108) rfl ?_); (try (rw [drewN_self wc]; generalize hq_ : World.drewN wc _ = wc; have n0_ := Aside0.mk (Kd.R_at hq_ HO_10.out); have n1_ := Aside0.mk (Kd.R_at hq_ HO_11.out); have n2_ := Aside0.mk (Kd.R_at hq_ HO_12.out); have n3_ := Aside0.mk (below_at hq_ HB.out); clear hq_ HO_10 HO_11 HO_12 HB; have HO_10 := n0_; have HO_11 := n1_; have HO_12 := n2_; have HB := n3_; clear n0_ n1_ n2_ n3_; (try (obtain ⟨hy_a, hz_a⟩ := Kd.R_celln 0 HO_11.out (x13_1 : Int) (of_decide_eq_true (by first | (with_reducible assumption) | assumption)) (of_decide_eq_true (by first | (with_reducible assumption) | assumption)))); (try (have HP57 := Kd.R_putg HO_11.out (x13_1 : Int) (wrap64 ((rd x11_2 (ji33)) + (rd t191 x14_2))))))); refine store_event (t := 3) (p := 108) (v := ?vo_w58) (w1 := (wc.setCell ⟨go53, (x13_1 : Int).toNat, none⟩ (.int .i64 (wrap64 ((rd x11_2 (ji33)) + (rd t191 x14_2)))))) ?hg ?ho ?hn ?hr ?_; (case ho => rfl); (case hg => rfl); (case hn => rfl); (case hr => first | (go_simp; done) | (go_simp; rfl)); intro w58 hw; have hg : wc.grownBy w58 (some go53) := (by rw [hw]; exact HP57.2); have hp_ : Kd.R (Kd.int .i64) 3 w58 w.heap.size (fun k_ => some k_ ≠ (.slice (some ad204) t191.length co56 : Value).ownBlock ∧ some k_ ≠ (.slice (some ⟨go17, 0, none⟩) x12_2.length co17 : Value).ownBlock) (.slice (some ⟨go53, 0, none⟩) x11_2.length co55) y210 := (by rw [hw, Ny210.out]; exact HP57.1); clear HP57; have n0_ := Aside0.mk (Kd.R_after (v := (.slice (some ⟨go53, 0, none⟩) x11_2.length co55)) (v1 := (.slice (some ⟨go53, 0, none⟩) x11_2.length co55)) (ok := (fun k_ => some k_ ≠ (.slice (some ⟨go17, 0, none⟩) x12_2.length co17 : Value).ownBlock)) (by (with_reducible repeat (first | apply Kd.R_alloc | apply Kd.R_drewN | apply Kd.R_drew)); exact Kd.R_mono HO_10.out (fun _ hk => ⟨hk.2, hk.1⟩)) hg (.inl rfl)); have n1_ := Aside0.mk (hp_); have n2_ := Aside0.mk (Kd.R_after (v := (.slice (some ⟨go53, 0, none⟩) x11_2.length co55)) (v1 := (.slice (some ⟨go53, 0, none⟩) x11_2.length co55)) (ok := (fun k_ => some k_ ≠ (.slice (some ad204) t191.length co56 : Value).ownBlock)) (by (with_reducible repeat (first | apply Kd.R_alloc | apply Kd.R_drewN | apply Kd.R_drew)); exact HO_12.out) hg (.inl rfl)); have n3_ := Aside0.mk ((by rw [hw]; exact below_set (HB.out) GB53.out : Below w.heap.size w w58)); clear HO_10; clear HO_11; clear HO_12; clear HB; have HO_10 := n0_; have HO_11 := n1_; have HO_12 := n2_; have HB := n3_; clear n0_ n1_ n2_ n3_; clear hg hw hp_; have p54 : 0 ≤ (x13_1 : Int) := of_decide_eq_true (by first | (with_reducible assumption) | assumption); have q54 : (x13_1 : Int) < ((x12_2.length : Int) : Int) := of_decide_eq_true (by first | (with_reducible assumption) | assumption); obtain ⟨hx54_0, hf54_0⟩ := Kd.R_celln 0 HO_12.out (x13_1 : Int) p54 q54; replace p54 := eq_true p54; replace q54 := eq_true q54; obtain ⟨hy59_, hz59_⟩ := Kd.R_celln 0 HO_12.out (x13_1 : Int) (of_decide_eq_true (by first | (with_reducible assumption) | assumption)) (of_decide_eq_true (by first | (with_reducible assumption) | assumption)); have HP59 := Kd.R_putg HO_12.out (x13_1 : Int) (wrap64 ((rd x12_2 (ji33)) + 1))) | ((with_reducible refine gate_store (t := 3) (p := 112) rfl ?_); (try (rw [drewN_self w58]; generalize hq_ : World.drewN w58 _ = w58; have n0_ := Aside0.mk (Kd.R_at hq_ HO_10.out); have n1_ := Aside0.mk (Kd.R_at hq_ HO_11.out); have n2_ := Aside0.mk (Kd.R_at hq_ HO_12.out); have n3_ := Aside0.mk (below_at hq_ HB.out); clear hq_ HO_10 HO_11 HO_12 HB; have HO_10 := n0_; have HO_11 := n1_; have HO_12 := n2_; have HB := n3_; clear n0_ n1_ n2_ n3_; (try (obtain ⟨hy59_, hz59_⟩ := Kd.R_celln 0 HO_12.out (x13_1 : Int) (of_decide_eq_true (by first | (with_reducible assumption) | assumption)) (of_decide_eq_true (by first | (with_reducible assumption) | assumption)))); (try (have HP59 := Kd.R_putg HO_12.out (x13_1 : Int) (wrap64 ((rd x12_2 (ji33)) + 1)))))); refine store_event (t := 3) (p := 112) (v := ?vo_w60) (w1 := (w58.setCell ⟨go17, (x13_1 : Int).toNat, none⟩ (.int .i64 (wrap64 ((rd x12_2 (ji33)) + 1))))) ?hg ?ho ?hn ?hr ?_; (case ho => rfl); (case hg => rfl); (case hn => rfl); (case hr => first | (go_simp; done) | (go_simp; rfl)); intro w60 hw; have hg : w58.grownBy w60 (some go17) := (by rw [hw]; exact HP59.2); have hp_ : Kd.R (Kd.int .i64) 3 w60 w.heap.size (fun k_ => some k_ ≠ (.slice (some ad204) t191.length co56 : Value).ownBlock ∧ some k_ ≠ (.slice (some ⟨go53, 0, none⟩) x11_2.length co55 : Value).ownBlock) (.slice (some ⟨go17, 0, none⟩) x12_2.length co17) y211 := (by rw [hw, Ny211.out]; exact HP59.1); clear HP59; have n0_ := Aside0.mk (Kd.R_after (v := (.slice (some ⟨go17, 0, none⟩) x12_2.length co17)) (v1 := (.slice (some ⟨go17, 0, none⟩) x12_2.length co17)) (ok := (fun k_ => some k_ ≠ (.slice (some ⟨go53, 0, none⟩) x11_2.length co55 : Value).ownBlock)) (by (with_reducible repeat (first | apply Kd.R_alloc | apply Kd.R_drewN | apply Kd.R_drew)); exact Kd.R_mono HO_10.out (fun _ hk => ⟨hk.2, hk.1⟩)) hg (.inl rfl)); have n1_ := Aside0.mk (Kd.R_after (v := (.slice (some ⟨go17, 0, none⟩) x12_2.length co17)) (v1 := (.slice (some ⟨go17, 0, none⟩) x12_2.length co17)) (ok := (fun k_ => some k_ ≠ (.slice (some ad204) t191.length co56 : Value).ownBlock)) (by (with_reducible repeat (first | apply Kd.R_alloc | apply Kd.R_drewN | apply Kd.R_drew)); exact HO_11.out) hg (.inl rfl)); have n2_ := Aside0.mk (hp_); have n3_ := Aside0.mk ((by rw [hw]; exact below_set (HB.out) GB17.out : Below w.heap.size w w60)); clear HO_10; clear HO_11; clear HO_12; clear HB; have HO_10 := n0_; have HO_11 := n1_; have HO_12 := n2_; have HB := n3_; clear n0_ n1_ n2_ n3_; clear hg hw hp_)))
                                                    (try simp only [← hl12_2])
                                                    go_roundg kj22
                                                    case measure => have := HK1.out; have := HK2.out; have := HJ19.out; have := HJ22.out; omega
                                                    case rel => exact ⟨(y210), (y211), (wrap64 (x14_2 + 1)), (by first | rfl | (simp; done) | (simp [*]; done)), H', ⟨by have := HK1.out; have := HK2.out; have := HJ19.out; have := HJ22.out; omega⟩, ⟨by (try simp only [hl12_2]); (with_reducible repeat (first | apply Kd.R_alloc | apply Kd.R_drewN | apply Kd.R_drew)); exact HO_10.out⟩, ⟨by (try simp only [hl12_2]); (with_reducible repeat (first | apply Kd.R_alloc | apply Kd.R_drewN | apply Kd.R_drew)); exact HO_11.out⟩, ⟨by (try simp only [hl12_2]); (with_reducible repeat (first | apply Kd.R_alloc | apply Kd.R_drewN | apply Kd.R_drew)); exact HO_12.out⟩, ⟨by repeat (first | (with_reducible first | exact HB.out | apply below_alloc | apply pw_below_drewN | apply below_drew1) | exact HB.out)⟩⟩
                                                  · rw [if_neg c52] at H
                                                    have c52b0 : decide ((wrap64 ((rd x11_2 (ji33)) + (rd t191 x14_2))) < (rd x11_2 x13_1)) = false := decide_eq_false c52
                                                    clear c52
                                                    by_cases c61 : (wrap64 ((rd x11_2 (ji33)) + (rd t191 x14_2))) = (rd x11_2 x13_1)
                                                    · rw [if_pos c61] at H
                                                      have c61b0 : ((wrap64 ((rd x11_2 (ji33)) + (rd t191 x14_2))) == (rd x11_2 x13_1)) = true := beq_iff_eq.mpr c61
                                                      have c61b1 : ((wrap64 ((rd x11_2 (ji33)) + (rd t191 x14_2))) != (rd x11_2 x13_1)) = false := bne_eq_false_iff_eq.mpr c61
                                                      clear c61
                                                      by_cases c62 : (wrap64 ((rd x12_2 (ji33)) + 1)) < (rd x12_2 x13_1)
                                                      · rw [if_pos c62] at H
                                                        have c62b0 : decide ((wrap64 ((rd x12_2 (ji33)) + 1)) < (rd x12_2 x13_1)) = true := decide_eq_true c62
                                                        clear c62
                                                        obtain ⟨y214, hy214⟩ : ∃ y_ : List Int, y_ = (x11_2.set (x13_1 : Int).toNat (wrap64 ((rd x11_2 (ji33)) + (rd t191 x14_2)))) := ⟨_, rfl⟩
                                                        replace H : (spec_wrLeast.l1 kj22 a0 a1 a2 t191 y214 (x12_2.set (x13_1 : Int).toNat (wrap64 ((rd x12_2 (ji33)) + 1))) x13_1 (wrap64 (x14_2 + 1))) = some (r1, r2) := by first | (rw [hy214]; with_reducible exact H) | (have H2_ := (Option.bind_some _ _).symm.trans H; rw [hy214]; with_reducible exact H2_) | (have H2_ := (Option.bind_some _ _).symm.trans H; with_reducible exact H2_) | with_reducible exact H | (rw [hy214]; exact H) | exact H
                                                        have Ny214 := Aside0.mk hy214
                                                        clear hy214
                                                        obtain ⟨y215, hy215⟩ : ∃ y_ : List Int, y_ = (x12_2.set (x13_1 : Int).toNat (wrap64 ((rd x12_2 (ji33)) + 1))) := ⟨_, rfl⟩
                                                        replace H : (spec_wrLeast.l1 kj22 a0 a1 a2 t191 y214 y215 x13_1 (wrap64 (x14_2 + 1))) = some (r1, r2) := by first | (rw [hy215]; with_reducible exact H) | (have H2_ := (Option.bind_some _ _).symm.trans H; rw [hy215]; with_reducible exact H2_) | (have H2_ := (Option.bind_some _ _).symm.trans H; with_reducible exact H2_) | with_reducible exact H | (rw [hy215]; exact H) | exact H
                                                        have Ny215 := Aside0.mk hy215
                                                        clear hy215
                                                        have H' := Aside0.mk H
                                                        clear H
                                                        obtain ⟨Ao65, co65, eo65⟩ := Kd.R_slice HO_11.out
                                                        subst eo65
                                                        have p203 : 0 ≤ ((ji33) : Int) := of_decide_eq_true (by first | (with_reducible assumption) | assumption)
                                                        have q203 : (ji33) < (x11_2.length : Int) := of_decide_eq_true (by first | (with_reducible assumption) | assumption)
                                                        obtain ⟨ad203, e203, hx203_0⟩ := Kd.at_int (Kd.R_reads' HO_11.out).2.2 (ji33) p203 q203
                                                        cases e203
                                                        replace p203 := eq_true p203
                                                        replace q203 := eq_true q203
                                                        obtain ⟨Ao66, co66, eo66⟩ := Kd.R_slice HO_10.out
                                                        subst eo66
                                                        have p204 : 0 ≤ (x14_2 : Int) := of_decide_eq_true (by first | (with_reducible assumption) | assumption)
                                                        have q204 : x14_2 < (t191.length : Int) := of_decide_eq_true (by first | (with_reducible assumption) | assumption)
                                                        obtain ⟨ad204, e204, hx204_0⟩ := Kd.at_int (Kd.R_reads' HO_10.out).2.2 x14_2 p204 q204
                                                        cases e204
                                                        replace p204 := eq_true p204
                                                        replace q204 := eq_true q204
                                                        have p205 : 0 ≤ ((ji33) : Int) := of_decide_eq_true (by first | (with_reducible assumption) | assumption)
                                                        have q205 : (ji33) < (x12_2.length : Int) := of_decide_eq_true (by first | (with_reducible assumption) | assumption)
                                                        obtain ⟨ad205, e205, hx205_0⟩ := Kd.at_int (Kd.R_reads' HO_12.out).2.2 (ji33) p205 q205
                                                        obtain rfl : (⟨go17, 0, none⟩ : Addr) = ad205 := (by injection e205)
                                                        (first | simp only [add_plain] at hx205_0 | simp only [add_at] at hx205_0 | simp only [Addr.add, Nat.zero_add] at hx205_0 | skip)
                                                        replace p205 := eq_true p205
                                                        replace q205 := eq_true q205
                                                        have p206 : 0 ≤ (x13_1 : Int) := of_decide_eq_true (by first | (with_reducible assumption) | assumption)
                                                        have q206 : x13_1 < (x12_2.length : Int) := of_decide_eq_true (by first | (with_reducible assumption) | assumption)
                                                        obtain ⟨ad206, e206, hx206_0⟩ := Kd.at_int (Kd.R_reads' HO_12.out).2.2 x13_1 p206 q206
                                                        obtain rfl : (⟨go17, 0, none⟩ : Addr) = ad206 := (by injection e206)
                                                        (first | simp only [add_plain] at hx206_0 | simp only [add_at] at hx206_0 | simp only [Addr.add, Nat.zero_add] at hx206_0 | skip)
                                                        replace p206 := eq_true p206
                                                        replace q206 := eq_true q206
                                                        have p209 : 0 ≤ (x13_1 : Int) := of_decide_eq_true (by first | (with_reducible assumption) | assumption)
                                                        have q209 : x13_1 < (x11_2.length : Int) := of_decide_eq_true (by first | (with_reducible assumption) | assumption)
                                                        obtain ⟨ad209, e209, hx209_0⟩ := Kd.at_int (Kd.R_reads' HO_11.out).2.2 x13_1 p209 q209
                                                        obtain rfl : ad203 = ad209 := (by injection e209)
                                                        replace p209 := eq_true p209
                                                        replace q209 := eq_true q209
                                                        have p212 : 0 ≤ (x13_1 : Int) := of_decide_eq_true (by first | (with_reducible assumption) | assumption)
                                                        have q212 : x13_1 < (x11_2.length : Int) := of_decide_eq_true (by first | (with_reducible assumption) | assumption)
                                                        obtain ⟨ad212, e212, hx212_0⟩ := Kd.at_int (Kd.R_reads' HO_11.out).2.2 x13_1 p212 q212
                                                        obtain rfl : ad203 = ad212 := (by injection e212)
                                                        replace p212 := eq_true p212
                                                        replace q212 := eq_true q212
                                                        have p213 : 0 ≤ (x13_1 : Int) := of_decide_eq_true (by first | (with_reducible assumption) | assumption)
                                                        have q213 : x13_1 < (x12_2.length : Int) := of_decide_eq_true (by first | (with_reducible assumption) | assumption)
                                                        obtain ⟨ad213, e213, hx213_0⟩ := Kd.at_int (Kd.R_reads' HO_12.out).2.2 x13_1 p213 q213
                                                        obtain rfl : (⟨go17, 0, none⟩ : Addr) = ad213 := (by injection e213)
                                                        (first | simp only [add_plain] at hx213_0 | simp only [add_at] at hx213_0 | simp only [Addr.add, Nat.zero_add] at hx213_0 | skip)
                                                        replace p213 := eq_true p213
                                                        replace q213 := eq_true q213
                                                        have p63 : 0 ≤ (x13_1 : Int) := of_decide_eq_true (by first | (with_reducible assumption) | assumption)
                                                        have q63 : (x13_1 : Int) < ((x11_2.length : Int) : Int) := of_decide_eq_true (by first | (with_reducible assumption) | assumption)
                                                        obtain ⟨go63, co63, eo63, gb63, gl63, cl63, HG63⟩ := Kd.R_form HO_11.out (by omega)
                                                        (first | cases eo63 | (injection eo63 with ea_ en_ ec_; (first | subst ea_ | (injection ea_ with ea_; subst ea_)); subst ec_; clear en_))
                                                        have GB63 := Aside0.mk gb63
                                                        have GG63 := Aside0.mk HG63
                                                        clear gb63 gl63 HG63
                                                        (first | simp only [add_plain] at hx203_0 | skip)
                                                        (first | simp only [add_plain] at hx209_0 | skip)
                                                        (first | simp only [add_plain] at hx212_0 | skip)
                                                        obtain ⟨hx63_0, hf63_0⟩ := Kd.R_celln 0 HO_11.out (x13_1 : Int) p63 q63
                                                        replace p63 := eq_true p63
                                                        replace q63 := eq_true q63
                                                        have HP67 := Kd.R_putg HO_11.out (x13_1 : Int) (wrap64 ((rd x11_2 (ji33)) + (rd t191 x14_2)))
                                                        go_wp2_with (first | ((with_reducible refine gate_store (t := 3) (p := 108) rfl ?_); (try (rw [drewN_self wc]; generalize hq_ : World.drewN wc _ = wc; have n0_ := Aside0.mk (Kd.R_at hq_ HO_10.out); have n1_ := Aside0.mk (Kd.R_at hq_ HO_11.out); have n2_ := Aside0.mk (Kd.R_at hq_ HO_12.out); have n3_ := Aside0.mk (below_at hq_ HB.out); clear hq_ HO_10 HO_11 HO_12 HB; have HO_10 := n0_; have HO_11 := n1_; have HO_12 := n2_; have HB := n3_; clear n0_ n1_ n2_ n3_; (try (obtain ⟨hy_a, hz_a⟩ := Kd.R_celln 0 HO_11.out (x13_1 : Int) (of_decide_eq_true (by first | (with_reducible assumption) | assumption)) (of_decide_eq_true (by first | (with_reducible assumption) | assumption)))); (try (have HP67 := Kd.R_putg HO_11.out (x13_1 : Int) (wrap64 ((rd x11_2 (ji33)) + (rd t191 x14_2))))))); refine store_event (t := 3) (p := 108) (v := ?vo_w68) (w1 := (wc.setCell ⟨go63, (x13_1 : Int).toNat, none⟩ (.int .i64 (wrap64 ((rd x11_2 (ji33)) + (rd t191 x14_2)))))) ?hg ?ho ?hn ?hr ?_; (case ho => rfl); (case hg => rfl); (case hn => rfl); (case hr => first | (go_simp; done) | (go_simp; rfl)); intro w68 hw; have hg : wc.grownBy w68 (some go63) := (by rw [hw]; exact HP67.2); have hp_ : Kd.R (Kd.int .i64) 3 w68 w.heap.size (fun k_ => some k_ ≠ (.slice (some ad204) t191.length co66 : Value).ownBlock ∧ some k_ ≠ (.slice (some ⟨go17, 0, none⟩) x12_2.length co17 : Value).ownBlock) (.slice (some ⟨go63, 0, none⟩) x11_2.length co65) y214 := (by rw [hw, Ny214.out]; exact HP67.1); clear HP67; have n0_ := Aside0.mk (Kd.R_after (v := (.slice (some ⟨go63, 0, none⟩) x11_2.length co65)) (v1 := (.slice (some ⟨go63, 0, none⟩) x11_2.length co65)) (ok := (fun k_ => some k_ ≠ (.slice (some ⟨go17, 0, none⟩) x12_2.length co17 : Value).ownBlock)) (by (with_reducible repeat (first | apply Kd.R_alloc | apply Kd.R_drewN | apply Kd.R_drew)); exact Kd.R_mono HO_10.out (fun _ hk => ⟨hk.2, hk.1⟩)) hg (.inl rfl)); have n1_ := Aside0.mk (hp_); have n2_ := Aside0.mk (Kd.R_after (v := (.slice (some ⟨go63, 0, none⟩) x11_2.length co65)) (v1 := (.slice (some ⟨go63, 0, none⟩) x11_2.length co65)) (ok := (fun k_ => some k_ ≠ (.slice (some ad204) t191.length co66 : Value).ownBlock)) (by (with_reducible repeat (first | apply Kd.R_alloc | apply Kd.R_drewN | apply Kd.R_drew)); exact HO_12.out) hg (.inl rfl)); have n3_ := Aside0.mk ((by rw [hw]; exact below_set (HB.out) GB63.out : Below w.heap.size w w68)); clear HO_10; clear HO_11; clear HO_12; clear HB; have HO_10 := n0_; have HO_11 := n1_; have HO_12 := n2_; have HB := n3_; clear n0_ n1_ n2_ n3_; clear hg hw hp_; have p64 : 0 ≤ (x13_1 : Int) := of_decide_eq_true (by first | (with_reducible assumption) | assumption); have q64 : (x13_1 : Int) < ((x12_2.length : Int) : Int) := of_decide_eq_true (by first | (with_reducible assumption) | assumption); obtain ⟨hx64_0, hf64_0⟩ := Kd.R_celln 0 HO_12.out (x13_1 : Int) p64 q64; replace p64 := eq_true p64; replace q64 := eq_true q64; obtain ⟨hy69_, hz69_⟩ := Kd.R_celln 0 HO_12.out (x13_1 : Int) (of_decide_eq_true (by first | (with_reducible assumption) | assumption)) (of_decide_eq_true (by first | (with_reducible assumption) | assumption)); have HP69 := Kd.R_putg HO_12.out (x13_1 : Int) (wrap64 ((rd x12_2 (ji33)) + 1))) | ((with_reducible refine gate_store (t := 3) (p := 112) rfl ?_); (try (rw [drewN_self w68]; generalize hq_ : World.drewN w68 _ = w68; have n0_ := Aside0.mk (Kd.R_at hq_ HO_10.out); have n1_ := Aside0.mk (Kd.R_at hq_ HO_11.out); have n2_ := Aside0.mk (Kd.R_at hq_ HO_12.out); have n3_ := Aside0.mk (below_at hq_ HB.out); clear hq_ HO_10 HO_11 HO_12 HB; have HO_10 := n0_; have HO_11 := n1_; have HO_12 := n2_; have HB := n3_; clear n0_ n1_ n2_ n3_; (try (obtain ⟨hy69_, hz69_⟩ := Kd.R_celln 0 HO_12.out (x13_1 : Int) (of_decide_eq_true (by first | (with_reducible assumption) | assumption)) (of_decide_eq_true (by first | (with_reducible assumption) | assumption)))); (try (have HP69 := Kd.R_putg HO_12.out (x13_1 : Int) (wrap64 ((rd x12_2 (ji33)) + 1)))))); refine store_event (t := 3) (p := 112) (v := ?vo_w70) (w1 := (w68.setCell ⟨go17, (x13_1 : Int).toNat, none⟩ (.int .i64 (wrap64 ((rd x12_2 (ji33)) + 1))))) ?hg ?ho ?hn ?hr ?_; (case ho => rfl); (case hg => rfl); (case hn => rfl); (case hr => first | (go_simp; done) | (go_simp; rfl)); intro w70 hw; have hg : w68.grownBy w70 (some go17) := (by rw [hw]; exact HP69.2); have hp_ : Kd.R (Kd.int .i64) 3 w70 w.heap.size (fun k_ => some k_ ≠ (.slice (some ad204) t191.length co66 : Value).ownBlock ∧ some k_ ≠ (.slice (some ⟨go63, 0, none⟩) x11_2.length co65 : Value).ownBlock) (.slice (some ⟨go17, 0, none⟩) x12_2.length co17) y215 := (by rw [hw, Ny215.out]; exact HP69.1); clear HP69; have n0_ := Aside0.mk (Kd.R_after (v := (.slice (some ⟨go17, 0, none⟩) x12_2.length co17)) (v1 := (.slice (some ⟨go17, 0, none⟩) x12_2.length co17)) (ok := (fun k_ => some k_ ≠ (.slice (some ⟨go63, 0, none⟩) x11_2.length co65 : Value).ownBlock)) (by (with_reducible repeat (first | apply Kd.R_alloc | apply Kd.R_drewN | apply Kd.R_drew)); exact Kd.R_mono HO_10.out (fun _ hk => ⟨hk.2, hk.1⟩)) hg (.inl rfl)); have n1_ := Aside0.mk (Kd.R_after (v := (.slice (some ⟨go17, 0, none⟩) x12_2.length co17)) (v1 := (.slice (some ⟨go17, 0, none⟩) x12_2.length co17)) (ok := (fun k_ => some k_ ≠ (.slice (some ad204) t191.length co66 : Value).ownBlock)) (by (with_reducible repeat (first | apply Kd.R_alloc | apply Kd.R_drewN | apply Kd.R_drew)); exact HO_11.out) hg (.inl rfl)); have n2_ := Aside0.mk (hp_); have n3_ := Aside0.mk ((by rw [hw]; exact below_set (HB.out) GB17.out : Below w.heap.size w w70)); clear HO_10; clear HO_11; clear HO_12; clear HB; have HO_10 := n0_; have HO_11 := n1_; have HO_12 := n2_; have HB := n3_; clear n0_ n1_ n2_ n3_; clear hg hw hp_))
                                                        repeat (go_quiet (first | ((with_reducible refine gate_store (t := 3) (p := 108) rfl ?_); (try (rw [drewN_self wc]; generalize hq_ : World.drewN wc _ = wc; have n0_ := Aside0.mk (Kd.R_at hq_ HO_10.out); have n1_ := Aside0.mk (Kd.R_at hq_ HO_11.out); have n2_ := Aside0.mk (Kd.R_at hq_ HO_12.out); have n3_ := Aside0.mk (below_at hq_ HB.out); clear hq_ HO_10 HO_11 HO_12 HB; have HO_10 := n0_; have HO_11 := n1_; have HO_12 := n2_; have HB := n3_; clear n0_ n1_ n2_ n3_; (try (obtain ⟨hy_a, hz_a⟩ := Kd.R_celln 0 HO_11.out (x13_1 : Int) (of_decide_eq_true (by first | (with_reducible assumption) | assumption)) (of_decide_eq_true (by first | (with_reducible assumption) | assumption)))); (try (have HP67 := Kd.R_putg HO_11.out (x13_1 : Int) (wrap64 ((rd x11_2 (ji33)) + (rd t191 x14_2))))))); refine store_event (t := 3) (p := 108) (v := ?vo_w68) (w1 := (wc.setCell ⟨go63, (x13_1 : Int).toNat, none⟩ (.int .i64 (wrap64 ((rd x11_2 (ji33)) + (rd t191 x14_2)))))) ?hg ?ho ?hn ?hr ?_; (case ho => rfl); (case hg => rfl); (case hn => rfl); (case hr => first | (go_simp; done) | (go_simp; rfl)); intro w68 hw; have hg : wc.grownBy w68 (some go63) := (by rw [hw]; exact HP67.2); have hp_ : Kd.R (Kd.int .i64) 3 w68 w.heap.size (fun k_ => some k_ ≠ (.slice (some ad204) t191.length co66 : Value).ownBlock ∧ some k_ ≠ (.slice (some ⟨go17, 0, none⟩) x12_2.length co17 : Value).ownBlock) (.slice (some ⟨go63, 0, none⟩) x11_2.length co65) y214 := (by rw [hw, Ny214.out]; exact HP67.1); clear HP67; have n0_ := Aside0.mk (Kd.R_after (v := (.slice (some ⟨go63, 0, none⟩) x11_2.length co65)) (v1 := (.slice (some ⟨go63, 0, none⟩) x11_2.length co65)) (ok := (fun k_ => some k_ ≠ (.slice (some ⟨go17, 0, none⟩) x12_2.length co17 : Value).ownBlock)) (by (with_reducible repeat (first | apply Kd.R_alloc | apply Kd.R_drewN | apply Kd.R_drew)); exact Kd.R_mono HO_10.out (fun _ hk => ⟨hk.2, hk.1⟩)) hg (.inl rfl)); have n1_ := Aside0.mk (hp_); have n2_ := Aside0.mk (Kd.R_after (v := (.slice (some ⟨go63, 0, none⟩) x11_2.length co65)) (v1 := (.slice (some ⟨go63, 0, none⟩) x11_2.length co65)) (ok := (fun k_ => some k_ ≠ (.slice (some ad204) t191.length co66 : Value).ownBlock)) (by (with_reducible repeat (first | apply Kd.R_alloc | apply Kd.R_drewN | apply Kd.R_drew)); exact HO_12.out) hg (.inl rfl)); have n3_ := Aside0.mk ((by rw [hw]; exact below_set (HB.out) GB63.out : Below w.heap.size w w68)); clear HO_10; clear HO_11; clear HO_12; clear HB; have HO_10 := n0_; have HO_11 := n1_; have HO_12 := n2_; have HB := n3_; clear n0_ n1_ n2_ n3_; clear hg hw hp_; have p64 : 0 ≤ (x13_1 : Int) := of_decide_eq_true (by first | (with_reducible assumption) | assumption); have q64 : (x13_1 : Int) < ((x12_2.length : Int) : Int) := of_decide_eq_true (by first | (with_reducible assumption) | assumption); obtain ⟨hx64_0, hf64_0⟩ := Kd.R_celln 0 HO_12.out (x13_1 : Int) p64 q64; replace p64 := eq_true p64; replace q64 := eq_true q64; obtain ⟨hy69_, hz69_⟩ := Kd.R_celln 0 HO_12.out (x13_1 : Int) (of_decide_eq_true (by first | (with_reducible assumption) | assumption)) (of_decide_eq_true (by first | (with_reducible assumption) | assumption)); have HP69 := Kd.R_putg HO_12.out (x13_1 : Int) (wrap64 ((rd x12_2 (ji33)) + 1))) | ((with_reducible refine gate_store (t := 3) (p := 112) rfl ?_); (try (rw [drewN_self w68]; generalize hq_ : World.drewN w68 _ = w68; have n0_ := Aside0.mk (Kd.R_at hq_ HO_10.out); have n1_ := Aside0.mk (Kd.R_at hq_ HO_11.out); have n2_ := Aside0.mk (Kd.R_at hq_ HO_12.out); have n3_ := Aside0.mk (below_at hq_ HB.out); clear hq_ HO_10 HO_11 HO_12 HB; have HO_10 := n0_; have HO_11 := n1_; have HO_12 := n2_; have HB := n3_; clear n0_ n1_ n2_ n3_; (try (obtain ⟨hy69_, hz69_⟩ := Kd.R_celln 0 HO_12.out (x13_1 : Int) (of_decide_eq_true (by first | (with_reducible assumption) | assumption)) (of_decide_eq_true (by first | (with_reducible assumption) | assumption)))); (try (have HP69 := Kd.R_putg HO_12.out (x13_1 : Int) (wrap64 ((rd x12_2 (ji33)) + 1)))))); refine store_event (t := 3) (p := 112) (v := ?vo_w70) (w1 := (w68.setCell ⟨go17, (x13_1 : Int).toNat, none⟩ (.int .i64 (wrap64 ((rd x12_2 (ji33)) + 1))))) ?hg ?ho ?hn ?hr ?_; (case ho => rfl); (case hg => rfl); (case hn => rfl); (case hr => first | (go_simp; done) | (go_simp; rfl)); intro w70 hw; have hg : w68.grownBy w70 (some go17) := (by rw [hw]; exact HP69.2); have hp_ : Kd.R (Kd.int .i64) 3 w70 w.heap.size (fun k_ => some k_ ≠ (.slice (some ad204) t191.length co66 : Value).ownBlock ∧ some k_ ≠ (.slice (some ⟨go63, 0, none⟩) x11_2.length co65 : Value).ownBlock) (.slice (some ⟨go17, 0, none⟩) x12_2.length co17) y215 := (by rw [hw, Ny215.out]; exact HP69.1); clear HP69; have n0_ := Aside0.mk (Kd.R_after (v := (.slice (some ⟨go17, 0, none⟩) x12_2.length co17)) (v1 := (.slice (some ⟨go17, 0, none⟩) x12_2.length co17)) (ok := (fun k_ => some k_ ≠ (.slice (some ⟨go63, 0, none⟩) x11_2.length co65 : Value).ownBlock)) (by (with_reducible repeat (first | apply Kd.R_alloc | apply Kd.R_drewN | apply Kd.R_drew)); exact Kd.R_mono HO_10.out (fun _ hk => ⟨hk.2, hk.1⟩)) hg (.inl rfl)); have n1_ := Aside0.mk (Kd.R_after (v := (.slice (some ⟨go17, 0, none⟩) x12_2.length co17)) (v1 := (.slice (some ⟨go17, 0, none⟩) x12_2.length co17)) (ok := (fun k_ => some k_ ≠ (.slice (some ad204) t191.length co66 : Value).ownBlock)) (by (with_reducible repeat (first | apply Kd.R_alloc | apply Kd.R_drewN | apply Kd.R_drew)); exact HO_11.out) hg (.inl rfl)); have n2_ := Aside0.mk (hp_); have n3_ := Aside0.mk ((by rw [hw]; exact below_set (HB.out) GB17.out : Below w.heap.size w w70)); clear HO_10; clear HO_11; clear HO_12; clear HB; have HO_10 := n0_; have HO_11 := n1_; have HO_12 := n2_; have HB := n3_; clear n0_ n1_ n2_ n3_; clear hg hw hp_)); try go_wp2_with (first | ((with_reducible refine gate_store (t := 3) (p := 108) rfl ?_); (try (rw [drewN_self wc]; generalize hq_ : World.drewN wc _ = wc; have n0_ := Aside0.mk (Kd.R_at hq_ HO_10.out); have n1_ := Aside0.mk (Kd.R_at hq_ HO_11.out); have n2_ := Aside0.mk (Kd.R_at hq_ HO_12.out); have n3_ := Aside0.mk (below_at hq_ HB.out); clear hq_ HO_10 HO_11 HO_12 HB; have HO_10 := n0_; have HO_11 := n1_; have HO_12 := n2_; have HB := n3_; clear n0_ n1_ n2_ n3_; (try (obtain ⟨hy_a, hz_a⟩ := Kd.R_celln 0 HO_11.out (x13_1 : Int) (of_decide_eq_true (by first | (with_reducible assumption) | assumption)) (of_decide_eq_true (by first | (with_reducible assumption) | assumption)))); (try (have HP67 := Kd.R_putg HO_11.out (x13_1 : Int) (wrap64 ((rd x11_2 (ji33)) + (rd t191 x14_2))))))); refine store_event (t := 3) (p := 108) (v := ?vo_w68) (w1 := (wc.setCell ⟨go63, (x13_1 : Int).toNat, none⟩ (.int .i64 (wrap64 ((rd x11_2 (ji33)) + (rd t191 x14_2)))))) ?hg ?ho ?hn ?hr ?_; (case ho => rfl); (case hg => rfl); (case hn => rfl); (case hr => first | (go_simp; done) | (go_simp; rfl)); intro w68 hw; have hg : wc.grownBy w68 (some go63) := (by rw [hw]; exact HP67.2); have hp_ : Kd.R (Kd.int .i64) 3 w68 w.heap.size (fun k_ => some k_ ≠ (.slice (some ad204) t191.length co66 : Value).ownBlock ∧ some k_ ≠ (.slice (some ⟨go17, 0, none⟩) x12_2.length co17 : Value).ownBlock) (.slice (some ⟨go63, 0, none⟩) x11_2.length co65) y214 := (by rw [hw, Ny214.out]; exact HP67.1); clear HP67; have n0_ := Aside0.mk (Kd.R_after (v := (.slice (some ⟨go63, 0, none⟩) x11_2.length co65)) (v1 := (.slice (some ⟨go63, 0, none⟩) x11_2.length co65)) (ok := (fun k_ => some k_ ≠ (.slice (some ⟨go17, 0, none⟩) x12_2.length co17 : Value).ownBlock)) (by (with_reducible repeat (first | apply Kd.R_alloc | apply Kd.R_drewN | apply Kd.R_drew)); exact Kd.R_mono HO_10.out (fun _ hk => ⟨hk.2, hk.1⟩)) hg (.inl rfl)); have n1_ := Aside0.mk (hp_); have n2_ := Aside0.mk (Kd.R_after (v := (.slice (some ⟨go63, 0, none⟩) x11_2.length co65)) (v1 := (.slice (some ⟨go63, 0, none⟩) x11_2.length co65)) (ok := (fun k_ => some k_ ≠ (.slice (some ad204) t191.length co66 : Value).ownBlock)) (by (with_reducible repeat (first | apply Kd.R_alloc | apply Kd.R_drewN | apply Kd.R_drew)); exact HO_12.out) hg (.inl rfl)); have n3_ := Aside0.mk ((by rw [hw]; exact below_set (HB.out) GB63.out : Below w.heap.size w w68)); clear HO_10; clear HO_11; clear HO_12; clear HB; have HO_10 := n0_; have HO_11 := n1_; have HO_12 := n2_; have HB := n3_; clear n0_ n1_ n2_ n3_; clear hg hw hp_; have p64 : 0 ≤ (x13_1 : Int) := of_decide_eq_true (by first | (with_reducible assumption) | assumption); have q64 : (x13_1 : Int) < ((x12_2.length : Int) : Int) := of_decide_eq_true (by first | (with_reducible assumption) | assumption); obtain ⟨hx64_0, hf64_0⟩ := Kd.R_celln 0 HO_12.out (x13_1 : Int) p64 q64; replace p64 := eq_true p64; replace q64 := eq_true q64; obtain ⟨hy69_, hz69_⟩ := Kd.R_celln 0 HO_12.out (x13_1 : Int) (of_decide_eq_true (by first | (with_reducible assumption) | assumption)) (of_decide_eq_true (by first | (with_reducible assumption) | assumption)); have HP69 := Kd.R_putg HO_12.out (x13_1 : Int) (wrap64 ((rd x12_2 (ji33)) + 1))) | ((with_reducible refine gate_store (t := 3) (p := 112) rfl ?_); (try (rw [drewN_self w68]; generalize hq_ : World.drewN w68 _ = w68; have n0_ := Aside0.mk (Kd.R_at hq_ HO_10.out); have n1_ := Aside0.mk (Kd.R_at hq_ HO_11.out); have n2_ := Aside0.mk (Kd.R_at hq_ HO_12.out); have n3_ := Aside0.mk (below_at hq_ HB.out); clear hq_ HO_10 HO_11 HO_12 HB; have HO_10 := n0_; have HO_11 := n1_; have HO_12 := n2_; have HB := n3_; clear n0_ n1_ n2_ n3_; (try (obtain ⟨hy69_, hz69_⟩ := Kd.R_celln 0 HO_12.out (x13_1 : Int) (of_decide_eq_true (by first | (with_reducible assumption) | assumption)) (of_decide_eq_true (by first | (with_reducible assumption) | assumption)))); (try (have HP69 := Kd.R_putg HO_12.out (x13_1 : Int) (wrap64 ((rd x12_2 (ji33)) + 1)))))); refine store_event (t := 3) (p := 112) (v := ?vo_w70) (w1 := (w68.setCell ⟨go17, (x13_1 : Int).toNat, none⟩ (.int .i64 (wrap64 ((rd x12_2 (ji33)) + 1))))) ?hg ?ho ?hn ?hr ?_; (case ho => rfl); (case hg => rfl); (case hn => rfl); (case hr => first | (go_simp; done) | (go_simp; rfl)); intro w70 hw; have hg : w68.grownBy w70 (some go17) := (by rw [hw]; exact HP69.2); have hp_ : Kd.R (Kd.int .i64) 3 w70 w.heap.size (fun k_ => some k_ ≠ (.slice (some ad204) t191.length co66 : Value).ownBlock ∧ some k_ ≠ (.slice (some ⟨go63, 0, none⟩) x11_2.length co65 : Value).ownBlock) (.slice (some ⟨go17, 0, none⟩) x12_2.length co17) y215 := (by rw [hw, Ny215.out]; exact HP69.1); clear HP69; have n0_ := Aside0.mk (Kd.R_after (v := (.slice (some ⟨go17, 0, none⟩) x12_2.length co17)) (v1 := (.slice (some ⟨go17, 0, none⟩) x12_2.length co17)) (ok := (fun k_ => some k_ ≠ (.slice (some ⟨go63, 0, none⟩) x11_2.length co65 : Value).ownBlock)) (by (with_reducible repeat (first | apply Kd.R_alloc | apply Kd.R_drewN | apply Kd.R_drew)); exact Kd.R_mono HO_10.out (fun _ hk => ⟨hk.2, hk.1⟩)) hg (.inl rfl)); have n1_ := Aside0.mk (Kd.R_after (v := (.slice (some ⟨go17, 0, none⟩) x12_2.length co17)) (v1 := (.slice (some ⟨go17, 0, none⟩) x12_2.length co17)) (ok := (fun k_ => some k_ ≠ (.slice (some ad204) t191.length co66 : Value).ownBlock)) (by (with_reducible repeat (first | apply Kd.R_alloc | apply Kd.R_drewN | apply Kd.R_drew)); exact HO_11.out) hg (.inl rfl)); have n2_ := Aside0.mk (hp_); have n3_ := Aside0.mk ((by rw [hw]; exact below_set (HB.out) GB17.out : Below w.heap.size w w70)); clear HO_10; clear HO_11; clear HO_12; clear HB; have HO_10 := n0_; have HO_11 := n1_; have HO_12 := n2_; have HB := n3_; clear n0_ n1_ n2_ n3_; clear hg hw hp_)))
                                                        (try simp only [← hl12_2])
                                                        go_roundg kj22
                                                        case measure => have := HK1.out; have := HK2.out; have := HJ19.out; have := HJ22.out; omega
                                                        case rel => exact ⟨(y214), (y215), (wrap64 (x14_2 + 1)), (by first | rfl | (simp; done) | (simp [*]; done)), H', ⟨by have := HK1.out; have := HK2.out; have := HJ19.out; have := HJ22.out; omega⟩, ⟨by (try simp only [hl12_2]); (with_reducible repeat (first | apply Kd.R_alloc | apply Kd.R_drewN | apply Kd.R_drew)); exact HO_10.out⟩, ⟨by (try simp only [hl12_2]); (with_reducible repeat (first | apply Kd.R_alloc | apply Kd.R_drewN | apply Kd.R_drew)); exact HO_11.out⟩, ⟨by (try simp only [hl12_2]); (with_reducible repeat (first | apply Kd.R_alloc | apply Kd.R_drewN | apply Kd.R_drew)); exact HO_12.out⟩, ⟨by repeat (first | (with_reducible first | exact HB.out | apply below_alloc | apply pw_below_drewN | apply below_drew1) | exact HB.out)⟩⟩
                                                      · rw [if_neg c62] at H
                                                        have c62b0 : decide ((wrap64 ((rd x12_2 (ji33)) + 1)) < (rd x12_2 x13_1)) = false := decide_eq_false c62
                                                        clear c62
                                                        have H' := Aside0.mk H
                                                        clear H
                                                        obtain ⟨Ao71, co71, eo71⟩ := Kd.R_slice HO_11.out
                                                        subst eo71
                                                        have p203 : 0 ≤ ((ji33) : Int) := of_decide_eq_true (by first | (with_reducible assumption) | assumption)
                                                        have q203 : (ji33) < (x11_2.length : Int) := of_decide_eq_true (by first | (with_reducible assumption) | assumption)
                                                        obtain ⟨ad203, e203, hx203_0⟩ := Kd.at_int (Kd.R_reads' HO_11.out).2.2 (ji33) p203 q203
                                                        cases e203
                                                        replace p203 := eq_true p203
                                                        replace q203 := eq_true q203
                                                        obtain ⟨Ao72, co72, eo72⟩ := Kd.R_slice HO_10.out
                                                        subst eo72
                                                        have p204 : 0 ≤ (x14_2 : Int) := of_decide_eq_true (by first | (with_reducible assumption) | assumption)
                                                        have q204 : x14_2 < (t191.length : Int) := of_decide_eq_true (by first | (with_reducible assumption) | assumption)
                                                        obtain ⟨ad204, e204, hx204_0⟩ := Kd.at_int (Kd.R_reads' HO_10.out).2.2 x14_2 p204 q204
                                                        cases e204
                                                        replace p204 := eq_true p204
                                                        replace q204 := eq_true q204
                                                        have p205 : 0 ≤ ((ji33) : Int) := of_decide_eq_true (by first | (with_reducible assumption) | assumption)
                                                        have q205 : (ji33) < (x12_2.length : Int) := of_decide_eq_true (by first | (with_reducible assumption) | assumption)
                                                        obtain ⟨ad205, e205, hx205_0⟩ := Kd.at_int (Kd.R_reads' HO_12.out).2.2 (ji33) p205 q205
                                                        obtain rfl : (⟨go17, 0, none⟩ : Addr) = ad205 := (by injection e205)
                                                        (first | simp only [add_plain] at hx205_0 | simp only [add_at] at hx205_0 | simp only [Addr.add, Nat.zero_add] at hx205_0 | skip)
                                                        replace p205 := eq_true p205
                                                        replace q205 := eq_true q205
                                                        have p206 : 0 ≤ (x13_1 : Int) := of_decide_eq_true (by first | (with_reducible assumption) | assumption)
                                                        have q206 : x13_1 < (x12_2.length : Int) := of_decide_eq_true (by first | (with_reducible assumption) | assumption)
                                                        obtain ⟨ad206, e206, hx206_0⟩ := Kd.at_int (Kd.R_reads' HO_12.out).2.2 x13_1 p206 q206
                                                        obtain rfl : (⟨go17, 0, none⟩ : Addr) = ad206 := (by injection e206)
                                                        (first | simp only [add_plain] at hx206_0 | simp only [add_at] at hx206_0 | simp only [Addr.add, Nat.zero_add] at hx206_0 | skip)
                                                        replace p206 := eq_true p206
                                                        replace q206 := eq_true q206
                                                        have p209 : 0 ≤ (x13_1 : Int) := of_decide_eq_true (by first | (with_reducible assumption) | assumption)
                                                        have q209 : x13_1 < (x11_2.length : Int) := of_decide_eq_true (by first | (with_reducible assumption) | assumption)
                                                        obtain ⟨ad209, e209, hx209_0⟩ := Kd.at_int (Kd.R_reads' HO_11.out).2.2 x13_1 p209 q209
                                                        obtain rfl : ad203 = ad209 := (by injection e209)
                                                        replace p209 := eq_true p209
                                                        replace q209 := eq_true q209
                                                        have p212 : 0 ≤ (x13_1 : Int) := of_decide_eq_true (by first | (with_reducible assumption) | assumption)
                                                        have q212 : x13_1 < (x11_2.length : Int) := of_decide_eq_true (by first | (with_reducible assumption) | assumption)
                                                        obtain ⟨ad212, e212, hx212_0⟩ := Kd.at_int (Kd.R_reads' HO_11.out).2.2 x13_1 p212 q212
                                                        obtain rfl : ad203 = ad212 := (by injection e212)
                                                        replace p212 := eq_true p212
                                                        replace q212 := eq_true q212
                                                        have p213 : 0 ≤ (x13_1 : Int) := of_decide_eq_true (by first | (with_reducible assumption) | assumption)
                                                        have q213 : x13_1 < (x12_2.length : Int) := of_decide_eq_true (by first | (with_reducible assumption) | assumption)
                                                        obtain ⟨ad213, e213, hx213_0⟩ := Kd.at_int (Kd.R_reads' HO_12.out).2.2 x13_1 p213 q213
                                                        obtain rfl : (⟨go17, 0, none⟩ : Addr) = ad213 := (by injection e213)
                                                        (first | simp only [add_plain] at hx213_0 | simp only [add_at] at hx213_0 | simp only [Addr.add, Nat.zero_add] at hx213_0 | skip)
                                                        replace p213 := eq_true p213
                                                        replace q213 := eq_true q213
                                                        go_wp2
                                                        repeat (go_quiet (fail); try go_wp2)
                                                        (try simp only [← hl12_2])
                                                        go_roundg kj22
                                                        case measure => have := HK1.out; have := HK2.out; have := HJ19.out; have := HJ22.out; omega
                                                        case rel => exact ⟨(x11_2), (x12_2), (wrap64 (x14_2 + 1)), (by first | rfl | (simp; done) | (simp [*]; done)), H', ⟨by have := HK1.out; have := HK2.out; have := HJ19.out; have := HJ22.out; omega⟩, ⟨by (try simp only [hl12_2]); (with_reducible repeat (first | apply Kd.R_alloc | apply Kd.R_drewN | apply Kd.R_drew)); exact HO_10.out⟩, ⟨by (try simp only [hl12_2]); (with_reducible repeat (first | apply Kd.R_alloc | apply Kd.R_drewN | apply Kd.R_drew)); exact HO_11.out⟩, ⟨by (try simp only [hl12_2]); (with_reducible repeat (first | apply Kd.R_alloc | apply Kd.R_drewN | apply Kd.R_drew)); exact HO_12.out⟩, ⟨by repeat (first | (with_reducible first | exact HB.out | apply below_alloc | apply pw_below_drewN | apply below_drew1) | exact HB.out)⟩⟩
                                                    · rw [if_neg c61] at H
                                                      have c61b0 : ((wrap64 ((rd x11_2 (ji33)) + (rd t191 x14_2))) == (rd x11_2 x13_1)) = false := beq_eq_false_iff_ne.mpr c61
                                                      have c61b1 : ((wrap64 ((rd x11_2 (ji33)) + (rd t191 x14_2))) != (rd x11_2 x13_1)) = true := bne_iff_ne.mpr c61
                                                      have H' := Aside0.mk H
                                                      clear H
                                                      obtain ⟨Ao73, co73, eo73⟩ := Kd.R_slice HO_11.out
                                                      subst eo73
                                                      have p203 : 0 ≤ ((ji33) : Int) := of_decide_eq_true (by first | (with_reducible assumption) | assumption)
                                                      have q203 : (ji33) < (x11_2.length : Int) := of_decide_eq_true (by first | (with_reducible assumption) | assumption)
                                                      obtain ⟨ad203, e203, hx203_0⟩ := Kd.at_int (Kd.R_reads' HO_11.out).2.2 (ji33) p203 q203
                                                      cases e203
                                                      replace p203 := eq_true p203
                                                      replace q203 := eq_true q203
                                                      obtain ⟨Ao74, co74, eo74⟩ := Kd.R_slice HO_10.out
                                                      subst eo74
                                                      have p204 : 0 ≤ (x14_2 : Int) := of_decide_eq_true (by first | (with_reducible assumption) | assumption)
                                                      have q204 : x14_2 < (t191.length : Int) := of_decide_eq_true (by first | (with_reducible assumption) | assumption)
                                                      obtain ⟨ad204, e204, hx204_0⟩ := Kd.at_int (Kd.R_reads' HO_10.out).2.2 x14_2 p204 q204
                                                      cases e204
                                                      replace p204 := eq_true p204
                                                      replace q204 := eq_true q204
                                                      have p205 : 0 ≤ ((ji33) : Int) := of_decide_eq_true (by first | (with_reducible assumption) | assumption)
                                                      have q205 : (ji33) < (x12_2.length : Int) := of_decide_eq_true (by first | (with_reducible assumption) | assumption)
                                                      obtain ⟨ad205, e205, hx205_0⟩ := Kd.at_int (Kd.R_reads' HO_12.out).2.2 (ji33) p205 q205
                                                      obtain rfl : (⟨go17, 0, none⟩ : Addr) = ad205 := (by injection e205)
                                                      (first | simp only [add_plain] at hx205_0 | simp only [add_at] at hx205_0 | simp only [Addr.add, Nat.zero_add] at hx205_0 | skip)
                                                      replace p205 := eq_true p205
                                                      replace q205 := eq_true q205
                                                      have p206 : 0 ≤ (x13_1 : Int) := of_decide_eq_true (by first | (with_reducible assumption) | assumption)
                                                      have q206 : x13_1 < (x12_2.length : Int) := of_decide_eq_true (by first | (with_reducible assumption) | assumption)
                                                      obtain ⟨ad206, e206, hx206_0⟩ := Kd.at_int (Kd.R_reads' HO_12.out).2.2 x13_1 p206 q206
                                                      obtain rfl : (⟨go17, 0, none⟩ : Addr) = ad206 := (by injection e206)
                                                      (first | simp only [add_plain] at hx206_0 | simp only [add_at] at hx206_0 | simp only [Addr.add, Nat.zero_add] at hx206_0 | skip)
                                                      replace p206 := eq_true p206
                                                      replace q206 := eq_true q206
                                                      have p209 : 0 ≤ (x13_1 : Int) := of_decide_eq_true (by first | (with_reducible assumption) | assumption)
                                                      have q209 : x13_1 < (x11_2.length : Int) := of_decide_eq_true (by first | (with_reducible assumption) | assumption)
                                                      obtain ⟨ad209, e209, hx209_0⟩ := Kd.at_int (Kd.R_reads' HO_11.out).2.2 x13_1 p209 q209
                                                      obtain rfl : ad203 = ad209 := (by injection e209)
                                                      replace p209 := eq_true p209
                                                      replace q209 := eq_true q209
                                                      have p212 : 0 ≤ (x13_1 : Int) := of_decide_eq_true (by first | (with_reducible assumption) | assumption)
                                                      have q212 : x13_1 < (x11_2.length : Int) := of_decide_eq_true (by first | (with_reducible assumption) | assumption)
                                                      obtain ⟨ad212, e212, hx212_0⟩ := Kd.at_int (Kd.R_reads' HO_11.out).2.2 x13_1 p212 q212
                                                      obtain rfl : ad203 = ad212 := (by injection e212)
                                                      replace p212 := eq_true p212
                                                      replace q212 := eq_true q212
                                                      go_wp2
                                                      repeat (go_quiet (fail); try go_wp2)
                                                      (try simp only [← hl12_2])
                                                      go_roundg kj22
                                                      case measure => have := HK1.out; have := HK2.out; have := HJ19.out; have := HJ22.out; omega
                                                      case rel => exact ⟨(x11_2), (x12_2), (wrap64 (x14_2 + 1)), (by first | rfl | (simp; done) | (simp [*]; done)), H', ⟨by have := HK1.out; have := HK2.out; have := HJ19.out; have := HJ22.out; omega⟩, ⟨by (try simp only [hl12_2]); (with_reducible repeat (first | apply Kd.R_alloc | apply Kd.R_drewN | apply Kd.R_drew)); exact HO_10.out⟩, ⟨by (try simp only [hl12_2]); (with_reducible repeat (first | apply Kd.R_alloc | apply Kd.R_drewN | apply Kd.R_drew)); exact HO_11.out⟩, ⟨by (try simp only [hl12_2]); (with_reducible repeat (first | apply Kd.R_alloc | apply Kd.R_drewN | apply Kd.R_drew)); exact HO_12.out⟩, ⟨by repeat (first | (with_reducible first | exact HB.out | apply below_alloc | apply pw_below_drewN | apply below_drew1) | exact HB.out)⟩⟩
                                                · rw [if_neg c51] at H
                                                  exact absurd H (by simp)
                                            · rw [if_neg c40] at H
                                              exact absurd H (by simp)
                                          · rw [if_neg c39] at H
                                            exact absurd H (by simp)
                                        · rw [if_neg c38] at H
                                          exact absurd H (by simp)
                                      · rw [if_neg c37] at H
                                        exact absurd H (by simp)
                                    · rw [if_neg c36] at H
                                      exact absurd H (by simp)
                                  · rw [if_neg c35] at H
                                    exact absurd H (by simp)
                                · rw [if_neg c34] at H
                                  exact absurd H (by simp)
                        · replace c22 := Bool.eq_false_iff.mpr c22
                          subst c22
                          have H1 : (spec_wrLeast.l0 kj19 a0 a1 a2 t191 x11_2 x12_2 (wrap64 (x13_1 + 1))) = some (r1, r2) := by rw [if_neg (show ¬ (false = true) by decide)] at H; exact H
                          clear H
                          have H := H1
                          clear H1
                          have H' := Aside0.mk H
                          clear H
                          go_wp2
                          repeat (go_quiet (fail); try go_wp2)
                          (try simp only [← hl12_2])
                          go_roundg kj19
                          case measure => have := HK1.out; have := HK2.out; have := HJ19.out; omega
                          case rel => exact ⟨(x11_2), (x12_2), (wrap64 (x13_1 + 1)), (by first | rfl | (simp; done) | (simp [*]; done)), H', ⟨by have := HK1.out; have := HK2.out; have := HJ19.out; omega⟩, ⟨by (try simp only [hl12_2]); (with_reducible repeat (first | apply Kd.R_alloc | apply Kd.R_drewN | apply Kd.R_drew)); exact HO_10.out⟩, ⟨by (try simp only [hl12_2]); (with_reducible repeat (first | apply Kd.R_alloc | apply Kd.R_drewN | apply Kd.R_drew)); exact HO_11.out⟩, ⟨by (try simp only [hl12_2]); (with_reducible repeat (first | apply Kd.R_alloc | apply Kd.R_drewN | apply Kd.R_drew)); exact HO_12.out⟩, ⟨by repeat (first | (with_reducible first | exact HB.out | apply below_alloc | apply pw_below_drewN | apply below_drew1) | exact HB.out)⟩⟩
              · rw [if_neg c16] at H
                exact absurd H (by simp)
            · rw [if_neg c15] at H
              exact absurd H (by simp)
          · rw [if_neg c14] at H
            have c14b0 : decide (x13_1 ≤ a0) = false := decide_eq_false c14
            clear c14
            simp only [Option.some.injEq, Prod.mk.injEq] at H
            obtain ⟨rfl, rfl⟩ := H
            go_wp2
            repeat (go_quiet (fail); try go_wp2)
            go_ret2
            exact ⟨_, _, by first | rfl | (simp [errW_none, errW_some] <;> rfl) | (simp only [← hji6]; first | rfl | (simp [errW_none, errW_some] <;> rfl)) | (simp [*, errW_none, errW_some] <;> rfl), by (with_reducible repeat (first | apply Kd.R_alloc | apply Kd.R_drewN | apply Kd.R_drew)); exact Kd.R_mono HO_11.out (fun _ hk => hk.2), by (with_reducible repeat (first | apply Kd.R_alloc | apply Kd.R_drewN | apply Kd.R_drew)); exact Kd.R_mono HO_12.out (fun _ hk => hk.2), by repeat (first | (with_reducible first | exact HB.out | apply below_alloc | apply pw_below_drewN | apply below_drew1) | exact HB.out)⟩
    · rw [if_neg c8] at H
      exact absurd H (by simp)
  · rw [if_neg c7] at H
    exact absurd H (by simp)

end Go.Proofs.Ytolfcknnjggchaa.PB
