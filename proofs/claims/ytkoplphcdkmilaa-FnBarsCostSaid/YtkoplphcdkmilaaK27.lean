/- Texts of this claim joined, in the order in which they build: Ax7, GLaw0, PLines2, GLaw1. -/
import Derived.SizedLaws
import Derived.ChangeSlices
import Derived.Test.YtkoplphcdkmilaaK26
section
namespace Go.Proofs.Ytkoplphcdkmilaa.All
open Go.RowKit Go.Proofs.YtkoplphcdkmilaaW.PrintWords Go.Proofs.YtkoplphcdkmilaaW.PrintLast Go.Proofs.YtkoplphcdkmilaaW.PrintMore
attribute [local go_sem] max2_int min2_int max_two min_two max_three min_three max_four min_four   -- for this text's walks alone
set_option linter.unusedVariables false
set_option linter.unusedSimpArgs false

def laws_hSame.l0 : Nat → List Int → List Int → Int → Int → Option (Bool)
  | 0, _, _, _, _ => none
  | k + 1, x0, x1, x12, x13 => if x13 < x12 then (if 0 ≤ x13 then (if x13 < (x0.length : Int) then (if x13 < (x1.length : Int) then (if (rd x0 x13) = (rd x1 x13) then (laws_hSame.l0 k x0 x1 x12 (wrap64 (x13 + 1))) else (some false)) else (none)) else (none)) else (none)) else (some true)
def laws_hSame.f (k : Nat) (l0 : List Int) (l1 : List Int) : Option (Bool) := if (l0.length : Int) = (l1.length : Int) then (laws_hSame.l0 k l0 l1 (l0.length : Int) 0) else (some false)
theorem laws_hSame.mono_l : ∀ k, (∀ y0 y1 y2 y3, LeO (laws_hSame.l0 k y0 y1 y2 y3) (laws_hSame.l0 (k + 1) y0 y1 y2 y3))
  | 0 => fun _ _ _ _ r h => by simp [laws_hSame.l0] at h
  | k + 1 => by
    have ih0 := laws_hSame.mono_l k
    · intro y0 y1 y2 y3
      unfold laws_hSame.l0
      repeat' first
      | (with_reducible exact ih0 _ _ _ _)
      | (with_reducible exact LeO.refl _)
      | (with_reducible exact LeO.none _)
      | (with_reducible refine LeO.ite ?_ ?_)
      | (with_reducible refine LeO.bind ?_ (fun _ => ?_))
      | exact ih0 _ _ _ _
      | exact LeO.none _
      | refine LeO.ite ?_ ?_
      | refine LeO.bind ?_ (fun _ => ?_)
theorem laws_hSame.mono : ∀ a0 a1 k, LeO (laws_hSame.f k a0 a1) (laws_hSame.f (k + 1) a0 a1) := by
  intro a0 a1 k
  have ih0 := laws_hSame.mono_l k
  unfold laws_hSame.f
  repeat' first
      | (with_reducible exact ih0 _ _ _ _)
      | (with_reducible exact LeO.refl _)
      | (with_reducible exact LeO.none _)
      | (with_reducible refine LeO.ite ?_ ?_)
      | (with_reducible refine LeO.bind ?_ (fun _ => ?_))
      | exact ih0 _ _ _ _
      | exact LeO.none _
      | refine LeO.ite ?_ ?_
      | refine LeO.bind ?_ (fun _ => ?_)
set_option maxHeartbeats 8000000 in
set_option maxRecDepth 100000 in
theorem laws_hSame.calls (k : Nat) (A0 : Option Addr) (c0 : Nat) (l0 : List Int) (A1 : Option Addr) (c1 : Nat) (l1 : List Int) (r : Bool) (w : World) (hr0 : Kd.C (Kd.int .i64) w A0 l0.length l0) (hc0 : l0.length ≤ c0) (hr1 : Kd.C (Kd.int .i64) w A1 l1.length l1) (hc1 : l1.length ≤ c1) (h : laws_hSame.f k l0 l1 = some r) :
    Calls Try.prog 51 #[.slice A0 l0.length c0, .slice A1 l1.length c1] w fun e w' => e = .returned (.bool r) ∧ Drawn0 w w' := by
  have HR0 := Aside0.mk hr0
  have HC0 := Aside0.mk hc0
  clear hr0 hc0
  have HR1 := Aside0.mk hr1
  have HC1 := Aside0.mk hc1
  clear hr1 hc1
  have H : (if (l0.length : Int) = (l1.length : Int) then (laws_hSame.l0 k l0 l1 (l0.length : Int) 0) else (some false)) = some r := h
  clear h
  by_cases c3 : (l0.length : Int) = (l1.length : Int)
  · rw [if_pos c3] at H
    have c3b0 : ((l0.length : Int) == (l1.length : Int)) = true := beq_iff_eq.mpr c3
    have c3b1 : ((l0.length : Int) != (l1.length : Int)) = false := bne_eq_false_iff_eq.mpr c3
    have c3b2 : (l0.length == l1.length) = true := by first | simpa using c3 | (simp at c3 ⊢; omega)
    clear c3
    have H' := Aside0.mk H
    clear H
    go_enter Try.func51, Try.ntmps51
    go_wp2
    repeat (go_quiet (fail); try go_wp2)
    go_loopg [13] k (fun kq v13 w' => ∃ (x13_1 : Int), v13 = .int .i64 x13_1 ∧ Aside0 (laws_hSame.l0 kq l0 l1 (l0.length : Int) x13_1 = some r) ∧ Aside0 (kq ≤ k) ∧ Drawn0 w w')
    case atStart => exact ⟨(0), (by first | rfl | (simp; done) | (simp [*]; done)), H', ⟨Nat.le_refl _⟩, by repeat (first | exact Drawn0.refl _ | apply Drawn0.step)⟩
    case round =>
      clear H'
      try clear c1
      try clear p2
      try clear c3
      try clear c3b0
      try clear c3b1
      try clear c3b2
      obtain ⟨x13_1, rfl, HA, HK1, ⟨m1, rfl⟩⟩ := hrel
      cases gk with
      | zero => exact absurd HA.out (by simp [laws_hSame.l0])
      | succ k1 =>
        have H := HA.out
        clear HA
        simp only [laws_hSame.l0] at H
        by_cases c4 : x13_1 < (l0.length : Int)
        · rw [if_pos c4] at H
          have c4b0 : decide (x13_1 < (l0.length : Int)) = true := decide_eq_true c4
          clear c4
          by_cases c5 : 0 ≤ x13_1
          · rw [if_pos c5] at H
            have c5b0 : decide (0 ≤ x13_1) = true := decide_eq_true c5
            clear c5
            by_cases c6 : x13_1 < (l0.length : Int)
            · rw [if_pos c6] at H
              have c6b0 : decide (x13_1 < (l0.length : Int)) = true := decide_eq_true c6
              clear c6
              by_cases c7 : x13_1 < (l1.length : Int)
              · rw [if_pos c7] at H
                have c7b0 : decide (x13_1 < (l1.length : Int)) = true := decide_eq_true c7
                clear c7
                by_cases c8 : (rd l0 x13_1) = (rd l1 x13_1)
                · rw [if_pos c8] at H
                  have c8b0 : ((rd l0 x13_1) == (rd l1 x13_1)) = true := beq_iff_eq.mpr c8
                  have c8b1 : ((rd l0 x13_1) != (rd l1 x13_1)) = false := bne_eq_false_iff_eq.mpr c8
                  clear c8
                  have H' := Aside0.mk H
                  clear H
                  have p281 : 0 ≤ (x13_1 : Int) := of_decide_eq_true (by first | (with_reducible assumption) | assumption)
                  have q281 : x13_1 < (l0.length : Int) := of_decide_eq_true (by first | (with_reducible assumption) | assumption)
                  obtain ⟨ad281, e281, hx281_0⟩ := Kd.at_int HR0.out x13_1 p281 q281
                  cases e281
                  replace p281 := eq_true p281
                  replace q281 := eq_true q281
                  have p282 : 0 ≤ (x13_1 : Int) := of_decide_eq_true (by first | (with_reducible assumption) | assumption)
                  have q282 : x13_1 < (l1.length : Int) := of_decide_eq_true (by first | (with_reducible assumption) | assumption)
                  obtain ⟨ad282, e282, hx282_0⟩ := Kd.at_int HR1.out x13_1 p282 q282
                  cases e282
                  replace p282 := eq_true p282
                  replace q282 := eq_true q282
                  go_wp2
                  repeat (go_quiet (fail); try go_wp2)
                  go_roundg k1
                  case measure => have := HK1.out; omega
                  case rel => exact ⟨(wrap64 (x13_1 + 1)), (by first | rfl | (simp; done) | (simp [*]; done)), H', ⟨by have := HK1.out; omega⟩, by repeat (first | exact Drawn0.refl _ | apply Drawn0.step)⟩
                · rw [if_neg c8] at H
                  have c8b0 : ((rd l0 x13_1) == (rd l1 x13_1)) = false := beq_eq_false_iff_ne.mpr c8
                  have c8b1 : ((rd l0 x13_1) != (rd l1 x13_1)) = true := bne_iff_ne.mpr c8
                  obtain rfl := Option.some.inj H
                  have p281 : 0 ≤ (x13_1 : Int) := of_decide_eq_true (by first | (with_reducible assumption) | assumption)
                  have q281 : x13_1 < (l0.length : Int) := of_decide_eq_true (by first | (with_reducible assumption) | assumption)
                  obtain ⟨ad281, e281, hx281_0⟩ := Kd.at_int HR0.out x13_1 p281 q281
                  cases e281
                  replace p281 := eq_true p281
                  replace q281 := eq_true q281
                  have p282 : 0 ≤ (x13_1 : Int) := of_decide_eq_true (by first | (with_reducible assumption) | assumption)
                  have q282 : x13_1 < (l1.length : Int) := of_decide_eq_true (by first | (with_reducible assumption) | assumption)
                  obtain ⟨ad282, e282, hx282_0⟩ := Kd.at_int HR1.out x13_1 p282 q282
                  cases e282
                  replace p282 := eq_true p282
                  replace q282 := eq_true q282
                  go_wp2
                  repeat (go_quiet (fail); try go_wp2)
                  go_ret
                  exact ⟨by first | rfl | (simp; done) | (simp [*]; done), by repeat (first | exact Drawn0.refl _ | apply Drawn0.step)⟩
              · rw [if_neg c7] at H
                exact absurd H (by simp)
            · rw [if_neg c6] at H
              exact absurd H (by simp)
          · rw [if_neg c5] at H
            exact absurd H (by simp)
        · rw [if_neg c4] at H
          have c4b0 : decide (x13_1 < (l0.length : Int)) = false := decide_eq_false c4
          clear c4
          obtain rfl := Option.some.inj H
          go_wp2
          repeat (go_quiet (fail); try go_wp2)
          go_ret
          exact ⟨by first | rfl | (simp; done) | (simp [*]; done), by repeat (first | exact Drawn0.refl _ | apply Drawn0.step)⟩
  · rw [if_neg c3] at H
    have c3b0 : ((l0.length : Int) == (l1.length : Int)) = false := beq_eq_false_iff_ne.mpr c3
    have c3b1 : ((l0.length : Int) != (l1.length : Int)) = true := bne_iff_ne.mpr c3
    have c3b2 : (l0.length == l1.length) = false := by first | simpa using c3 | (simp at c3 ⊢; omega)
    obtain rfl := Option.some.inj H
    go_enter Try.func51, Try.ntmps51
    go_wp2
    repeat (go_quiet (fail); try go_wp2)
    go_ret
    exact ⟨by first | rfl | (simp; done) | (simp [*]; done), by repeat (first | exact Drawn0.refl _ | apply Drawn0.step)⟩

def laws_hRows.l0 : Nat → List (List Int) → List (List Int) → Int → Int → Option (Bool)
  | 0, _, _, _, _ => none
  | k + 1, x0, x1, x12, x13 => if x13 < x12 then (if 0 ≤ x13 then (if x13 < (x0.length : Int) then (if x13 < (x1.length : Int) then ((laws_hSame.f k (rd_L4 x0 x13) (rd_L4 x1 x13)).bind fun t285 => (if t285 = true then (laws_hRows.l0 k x0 x1 x12 (wrap64 (x13 + 1))) else (some false))) else (none)) else (none)) else (none)) else (some true)
def laws_hRows.f (k : Nat) (l0 : List (List Int)) (l1 : List (List Int)) : Option (Bool) := if (l0.length : Int) = (l1.length : Int) then (laws_hRows.l0 k l0 l1 (l0.length : Int) 0) else (some false)
theorem laws_hRows.mono_l : ∀ k, (∀ y0 y1 y2 y3, LeO (laws_hRows.l0 k y0 y1 y2 y3) (laws_hRows.l0 (k + 1) y0 y1 y2 y3))
  | 0 => fun _ _ _ _ r h => by simp [laws_hRows.l0] at h
  | k + 1 => by
    have ih0 := laws_hRows.mono_l k
    · intro y0 y1 y2 y3
      unfold laws_hRows.l0
      repeat' first
      | (with_reducible exact ih0 _ _ _ _)
      | (with_reducible exact laws_hSame.mono _ _ _)
      | (with_reducible exact LeO.refl _)
      | (with_reducible exact LeO.none _)
      | (with_reducible refine LeO.ite ?_ ?_)
      | (with_reducible refine LeO.bind ?_ (fun _ => ?_))
      | exact ih0 _ _ _ _
      | exact laws_hSame.mono _ _ _
      | exact LeO.none _
      | refine LeO.ite ?_ ?_
      | refine LeO.bind ?_ (fun _ => ?_)
theorem laws_hRows.mono : ∀ a0 a1 k, LeO (laws_hRows.f k a0 a1) (laws_hRows.f (k + 1) a0 a1) := by
  intro a0 a1 k
  have ih0 := laws_hRows.mono_l k
  unfold laws_hRows.f
  repeat' first
      | (with_reducible exact ih0 _ _ _ _)
      | (with_reducible exact laws_hSame.mono _ _ _)
      | (with_reducible exact LeO.refl _)
      | (with_reducible exact LeO.none _)
      | (with_reducible refine LeO.ite ?_ ?_)
      | (with_reducible refine LeO.bind ?_ (fun _ => ?_))
      | exact ih0 _ _ _ _
      | exact laws_hSame.mono _ _ _
      | exact LeO.none _
      | refine LeO.ite ?_ ?_
      | refine LeO.bind ?_ (fun _ => ?_)
set_option maxHeartbeats 8000000 in
set_option maxRecDepth 100000 in
theorem laws_hRows.calls (k : Nat) (A0 : Option Addr) (c0 : Nat) (l0 : List (List Int)) (A1 : Option Addr) (c1 : Nat) (l1 : List (List Int)) (r : Bool) (w : World) (hr0 : Kd.C (Kd.slice 3 (Kd.int .i64)) w A0 l0.length l0) (hc0 : l0.length ≤ c0) (hr1 : Kd.C (Kd.slice 3 (Kd.int .i64)) w A1 l1.length l1) (hc1 : l1.length ≤ c1) (h : laws_hRows.f k l0 l1 = some r) :
    Calls Try.prog 25 #[.slice A0 l0.length c0, .slice A1 l1.length c1] w fun e w' => e = .returned (.bool r) ∧ Drawn0 w w' := by
  have HR0 := Aside0.mk hr0
  have HC0 := Aside0.mk hc0
  clear hr0 hc0
  have HR1 := Aside0.mk hr1
  have HC1 := Aside0.mk hc1
  clear hr1 hc1
  have H : (if (l0.length : Int) = (l1.length : Int) then (laws_hRows.l0 k l0 l1 (l0.length : Int) 0) else (some false)) = some r := h
  clear h
  by_cases c3 : (l0.length : Int) = (l1.length : Int)
  · rw [if_pos c3] at H
    have c3b0 : ((l0.length : Int) == (l1.length : Int)) = true := beq_iff_eq.mpr c3
    have c3b1 : ((l0.length : Int) != (l1.length : Int)) = false := bne_eq_false_iff_eq.mpr c3
    have c3b2 : (l0.length == l1.length) = true := by first | simpa using c3 | (simp at c3 ⊢; omega)
    clear c3
    have H' := Aside0.mk H
    clear H
    go_enter Try.func25, Try.ntmps25
    go_wp2
    repeat (go_quiet (fail); try go_wp2)
    go_loopg [13] k (fun kq v13 w' => ∃ (x13_1 : Int), v13 = .int .i64 x13_1 ∧ Aside0 (laws_hRows.l0 kq l0 l1 (l0.length : Int) x13_1 = some r) ∧ Aside0 (kq ≤ k) ∧ Drawn0 w w')
    case atStart => exact ⟨(0), (by first | rfl | (simp; done) | (simp [*]; done)), H', ⟨Nat.le_refl _⟩, by repeat (first | exact Drawn0.refl _ | apply Drawn0.step)⟩
    case round =>
      clear H'
      try clear c1
      try clear c2
      try clear p2
      try clear c3
      try clear c3b0
      try clear c3b1
      try clear c3b2
      obtain ⟨x13_1, rfl, HA, HK1, ⟨m1, rfl⟩⟩ := hrel
      cases gk with
      | zero => exact absurd HA.out (by simp [laws_hRows.l0])
      | succ k1 =>
        have H := HA.out
        clear HA
        simp only [laws_hRows.l0] at H
        by_cases c4 : x13_1 < (l0.length : Int)
        · rw [if_pos c4] at H
          have c4b0 : decide (x13_1 < (l0.length : Int)) = true := decide_eq_true c4
          clear c4
          by_cases c5 : 0 ≤ x13_1
          · rw [if_pos c5] at H
            have c5b0 : decide (0 ≤ x13_1) = true := decide_eq_true c5
            clear c5
            by_cases c6 : x13_1 < (l0.length : Int)
            · rw [if_pos c6] at H
              have c6b0 : decide (x13_1 < (l0.length : Int)) = true := decide_eq_true c6
              clear c6
              by_cases c7 : x13_1 < (l1.length : Int)
              · rw [if_pos c7] at H
                have c7b0 : decide (x13_1 < (l1.length : Int)) = true := decide_eq_true c7
                clear c7
                replace H := Option.bind_eq_some_iff.mp H
                obtain ⟨t285, A80, H⟩ := H
                replace H : (if t285 = true then (laws_hRows.l0 k1 l0 l1 (l0.length : Int) (wrap64 (x13_1 + 1))) else (some false)) = some r := H
                have A8 := Aside0.mk A80
                clear A80
                by_cases c9 : t285 = true
                · subst c9
                  have H1 : (laws_hRows.l0 k1 l0 l1 (l0.length : Int) (wrap64 (x13_1 + 1))) = some r := by rw [if_pos rfl] at H; exact H
                  clear H
                  have H := H1
                  clear H1
                  have H' := Aside0.mk H
                  clear H
                  have p283 : 0 ≤ (x13_1 : Int) := of_decide_eq_true (by first | (with_reducible assumption) | assumption)
                  have q283 : x13_1 < (l0.length : Int) := of_decide_eq_true (by first | (with_reducible assumption) | assumption)
                  obtain ⟨ad283, A283_0, c283_0, e283, hx283_0, hl283_0, hi283_0⟩ := at_L4 HR0.out x13_1 p283 q283
                  cases e283
                  have HR283_0 := Aside0.mk hi283_0
                  have HC283_0 := Aside0.mk hl283_0
                  clear hi283_0 hl283_0
                  replace p283 := eq_true p283
                  replace q283 := eq_true q283
                  have p284 : 0 ≤ (x13_1 : Int) := of_decide_eq_true (by first | (with_reducible assumption) | assumption)
                  have q284 : x13_1 < (l1.length : Int) := of_decide_eq_true (by first | (with_reducible assumption) | assumption)
                  obtain ⟨ad284, A284_0, c284_0, e284, hx284_0, hl284_0, hi284_0⟩ := at_L4 HR1.out x13_1 p284 q284
                  cases e284
                  have HR284_0 := Aside0.mk hi284_0
                  have HC284_0 := Aside0.mk hl284_0
                  clear hi284_0 hl284_0
                  replace p284 := eq_true p284
                  replace q284 := eq_true q284
                  go_wp2_with (first | (go_at_call 51; (with_reducible refine (laws_hSame.calls k1 _ _ (rd_L4 l0 x13_1) _ _ (rd_L4 l1 x13_1) true _ ?side1 ?side2 ?side3 ?side4 A8.out).mono ?_); (case side1 => repeat (first | exact HR283_0.out | (with_reducible refine Kd.C_alloc ?_ _) | (with_reducible refine Kd.C_drewN ?_ _) | (with_reducible refine Kd.C_drew ?_))); (case side2 => exact HC283_0.out); (case side3 => repeat (first | exact HR284_0.out | (with_reducible refine Kd.C_alloc ?_ _) | (with_reducible refine Kd.C_drewN ?_ _) | (with_reducible refine Kd.C_drew ?_))); (case side4 => exact HC284_0.out); rintro e w' ⟨rfl, ⟨nd, rfl⟩⟩; (try first | exact ⟨rfl, _, World.drewN_drewN _ _ _⟩ | exact ⟨rfl, _, Eq.trans (World.drewN_drewN _ _ _) (congrArg (World.drewN _) (Nat.add_assoc _ _ _))⟩)))
                  repeat (go_quiet (first | (go_at_call 51; (with_reducible refine (laws_hSame.calls k1 _ _ (rd_L4 l0 x13_1) _ _ (rd_L4 l1 x13_1) true _ ?side1 ?side2 ?side3 ?side4 A8.out).mono ?_); (case side1 => repeat (first | exact HR283_0.out | (with_reducible refine Kd.C_alloc ?_ _) | (with_reducible refine Kd.C_drewN ?_ _) | (with_reducible refine Kd.C_drew ?_))); (case side2 => exact HC283_0.out); (case side3 => repeat (first | exact HR284_0.out | (with_reducible refine Kd.C_alloc ?_ _) | (with_reducible refine Kd.C_drewN ?_ _) | (with_reducible refine Kd.C_drew ?_))); (case side4 => exact HC284_0.out); rintro e w' ⟨rfl, ⟨nd, rfl⟩⟩; (try first | exact ⟨rfl, _, World.drewN_drewN _ _ _⟩ | exact ⟨rfl, _, Eq.trans (World.drewN_drewN _ _ _) (congrArg (World.drewN _) (Nat.add_assoc _ _ _))⟩))); try go_wp2_with (first | (go_at_call 51; (with_reducible refine (laws_hSame.calls k1 _ _ (rd_L4 l0 x13_1) _ _ (rd_L4 l1 x13_1) true _ ?side1 ?side2 ?side3 ?side4 A8.out).mono ?_); (case side1 => repeat (first | exact HR283_0.out | (with_reducible refine Kd.C_alloc ?_ _) | (with_reducible refine Kd.C_drewN ?_ _) | (with_reducible refine Kd.C_drew ?_))); (case side2 => exact HC283_0.out); (case side3 => repeat (first | exact HR284_0.out | (with_reducible refine Kd.C_alloc ?_ _) | (with_reducible refine Kd.C_drewN ?_ _) | (with_reducible refine Kd.C_drew ?_))); (case side4 => exact HC284_0.out); rintro e w' ⟨rfl, ⟨nd, rfl⟩⟩; (try first | exact ⟨rfl, _, World.drewN_drewN _ _ _⟩ | exact ⟨rfl, _, Eq.trans (World.drewN_drewN _ _ _) (congrArg (World.drewN _) (Nat.add_assoc _ _ _))⟩))))
                  go_roundg k1
                  case measure => have := HK1.out; omega
                  case rel => exact ⟨(wrap64 (x13_1 + 1)), (by first | rfl | (simp; done) | (simp [*]; done)), H', ⟨by have := HK1.out; omega⟩, by repeat (first | exact Drawn0.refl _ | apply Drawn0.step)⟩
                · replace c9 := Bool.eq_false_iff.mpr c9
                  subst c9
                  have H1 : (some false) = some r := by rw [if_neg (show ¬ (false = true) by decide)] at H; exact H
                  clear H
                  have H := H1
                  clear H1
                  obtain rfl := Option.some.inj H
                  have p283 : 0 ≤ (x13_1 : Int) := of_decide_eq_true (by first | (with_reducible assumption) | assumption)
                  have q283 : x13_1 < (l0.length : Int) := of_decide_eq_true (by first | (with_reducible assumption) | assumption)
                  obtain ⟨ad283, A283_0, c283_0, e283, hx283_0, hl283_0, hi283_0⟩ := at_L4 HR0.out x13_1 p283 q283
                  cases e283
                  have HR283_0 := Aside0.mk hi283_0
                  have HC283_0 := Aside0.mk hl283_0
                  clear hi283_0 hl283_0
                  replace p283 := eq_true p283
                  replace q283 := eq_true q283
                  have p284 : 0 ≤ (x13_1 : Int) := of_decide_eq_true (by first | (with_reducible assumption) | assumption)
                  have q284 : x13_1 < (l1.length : Int) := of_decide_eq_true (by first | (with_reducible assumption) | assumption)
                  obtain ⟨ad284, A284_0, c284_0, e284, hx284_0, hl284_0, hi284_0⟩ := at_L4 HR1.out x13_1 p284 q284
                  cases e284
                  have HR284_0 := Aside0.mk hi284_0
                  have HC284_0 := Aside0.mk hl284_0
                  clear hi284_0 hl284_0
                  replace p284 := eq_true p284
                  replace q284 := eq_true q284
                  go_wp2_with (first | (go_at_call 51; (with_reducible refine (laws_hSame.calls k1 _ _ (rd_L4 l0 x13_1) _ _ (rd_L4 l1 x13_1) false _ ?side1 ?side2 ?side3 ?side4 A8.out).mono ?_); (case side1 => repeat (first | exact HR283_0.out | (with_reducible refine Kd.C_alloc ?_ _) | (with_reducible refine Kd.C_drewN ?_ _) | (with_reducible refine Kd.C_drew ?_))); (case side2 => exact HC283_0.out); (case side3 => repeat (first | exact HR284_0.out | (with_reducible refine Kd.C_alloc ?_ _) | (with_reducible refine Kd.C_drewN ?_ _) | (with_reducible refine Kd.C_drew ?_))); (case side4 => exact HC284_0.out); rintro e w' ⟨rfl, ⟨nd, rfl⟩⟩; (try first | exact ⟨rfl, _, World.drewN_drewN _ _ _⟩ | exact ⟨rfl, _, Eq.trans (World.drewN_drewN _ _ _) (congrArg (World.drewN _) (Nat.add_assoc _ _ _))⟩)))
                  repeat (go_quiet (first | (go_at_call 51; (with_reducible refine (laws_hSame.calls k1 _ _ (rd_L4 l0 x13_1) _ _ (rd_L4 l1 x13_1) false _ ?side1 ?side2 ?side3 ?side4 A8.out).mono ?_); (case side1 => repeat (first | exact HR283_0.out | (with_reducible refine Kd.C_alloc ?_ _) | (with_reducible refine Kd.C_drewN ?_ _) | (with_reducible refine Kd.C_drew ?_))); (case side2 => exact HC283_0.out); (case side3 => repeat (first | exact HR284_0.out | (with_reducible refine Kd.C_alloc ?_ _) | (with_reducible refine Kd.C_drewN ?_ _) | (with_reducible refine Kd.C_drew ?_))); (case side4 => exact HC284_0.out); rintro e w' ⟨rfl, ⟨nd, rfl⟩⟩; (try first | exact ⟨rfl, _, World.drewN_drewN _ _ _⟩ | exact ⟨rfl, _, Eq.trans (World.drewN_drewN _ _ _) (congrArg (World.drewN _) (Nat.add_assoc _ _ _))⟩))); try go_wp2_with (first | (go_at_call 51; (with_reducible refine (laws_hSame.calls k1 _ _ (rd_L4 l0 x13_1) _ _ (rd_L4 l1 x13_1) false _ ?side1 ?side2 ?side3 ?side4 A8.out).mono ?_); (case side1 => repeat (first | exact HR283_0.out | (with_reducible refine Kd.C_alloc ?_ _) | (with_reducible refine Kd.C_drewN ?_ _) | (with_reducible refine Kd.C_drew ?_))); (case side2 => exact HC283_0.out); (case side3 => repeat (first | exact HR284_0.out | (with_reducible refine Kd.C_alloc ?_ _) | (with_reducible refine Kd.C_drewN ?_ _) | (with_reducible refine Kd.C_drew ?_))); (case side4 => exact HC284_0.out); rintro e w' ⟨rfl, ⟨nd, rfl⟩⟩; (try first | exact ⟨rfl, _, World.drewN_drewN _ _ _⟩ | exact ⟨rfl, _, Eq.trans (World.drewN_drewN _ _ _) (congrArg (World.drewN _) (Nat.add_assoc _ _ _))⟩))))
                  go_ret
                  exact ⟨by first | rfl | (simp; done) | (simp [*]; done), by repeat (first | exact Drawn0.refl _ | apply Drawn0.step)⟩
              · rw [if_neg c7] at H
                exact absurd H (by simp)
            · rw [if_neg c6] at H
              exact absurd H (by simp)
          · rw [if_neg c5] at H
            exact absurd H (by simp)
        · rw [if_neg c4] at H
          have c4b0 : decide (x13_1 < (l0.length : Int)) = false := decide_eq_false c4
          clear c4
          obtain rfl := Option.some.inj H
          go_wp2
          repeat (go_quiet (fail); try go_wp2)
          go_ret
          exact ⟨by first | rfl | (simp; done) | (simp [*]; done), by repeat (first | exact Drawn0.refl _ | apply Drawn0.step)⟩
  · rw [if_neg c3] at H
    have c3b0 : ((l0.length : Int) == (l1.length : Int)) = false := beq_eq_false_iff_ne.mpr c3
    have c3b1 : ((l0.length : Int) != (l1.length : Int)) = true := bne_iff_ne.mpr c3
    have c3b2 : (l0.length == l1.length) = false := by first | simpa using c3 | (simp at c3 ⊢; omega)
    obtain rfl := Option.some.inj H
    go_enter Try.func25, Try.ntmps25
    go_wp2
    repeat (go_quiet (fail); try go_wp2)
    go_ret
    exact ⟨by first | rfl | (simp; done) | (simp [*]; done), by repeat (first | exact Drawn0.refl _ | apply Drawn0.step)⟩

end Go.Proofs.Ytkoplphcdkmilaa.All
end
section
namespace Go.Proofs.Ytkoplphcdkmilaa.All
open Go.Shelf Go.Lib Go.Sort Go.RowKit Go.Proofs.YtkoplphcdkmilaaW.PrintWords Go.Proofs.YtkoplphcdkmilaaW.PrintLast Go.Proofs.YtkoplphcdkmilaaW.PrintMore GSteps
theorem bars_new (w12 : World) (x1 x2 y1 y2 : Int) :
    ((w12.alloc (.cells #[.int .i64 x1, .int .i64 x2] 25)).alloc (.cells #[.int .i64 y1, .int .i64 y2] 25)).cell? ⟨w12.heap.size + 1, 0, none⟩ = some (.int .i64 y1) ∧ ((w12.alloc (.cells #[.int .i64 x1, .int .i64 x2] 25)).alloc (.cells #[.int .i64 y1, .int .i64 y2] 25)).cell? ⟨w12.heap.size + 1, 1, none⟩ = some (.int .i64 y2)
    ∧ ((w12.alloc (.cells #[.int .i64 x1, .int .i64 x2] 25)).alloc (.cells #[.int .i64 y1, .int .i64 y2] 25)).cell? ⟨w12.heap.size, 0, none⟩ = some (.int .i64 x1) ∧ ((w12.alloc (.cells #[.int .i64 x1, .int .i64 x2] 25)).alloc (.cells #[.int .i64 y1, .int .i64 y2] 25)).cell? ⟨w12.heap.size, 1, none⟩ = some (.int .i64 x2) := by
  refine ⟨?_, ?_, al_cell _ ?_, al_cell _ ?_⟩
  · simp
  · simp
  · simp
  · simp
theorem bars_old {w12 : World} {p : Addr} {v : Value} (x1 x2 y1 y2 : Int) (h : w12.cell? p = some v) : ((w12.alloc (.cells #[.int .i64 x1, .int .i64 x2] 25)).alloc (.cells #[.int .i64 y1, .int .i64 y2] 25)).cell? p = some v := al_cell _ (al_cell _ h)
theorem bars_below {w w12 : World} {B : Nat} (x1 x2 y1 y2 : Int) (h : Below B w w12) (hB : B ≤ w.heap.size) : Below B w ((w12.alloc (.cells #[.int .i64 x1, .int .i64 x2] 25)).alloc (.cells #[.int .i64 y1, .int .i64 y2] 25)) :=
  (h.alloc (Nat.le_trans hB h.size) _).alloc (Nat.le_trans (Nat.le_trans hB h.size) (below_alloc (Below.refl _ _) _).size) _
theorem bar_new0 (w : World) (x y : Int) : (w.alloc (.cells #[.int .i64 x, .int .i64 y] 25)).cell? ⟨w.heap.size, 0, none⟩ = some (.int .i64 x) := by simp
theorem bar_new1 (w : World) (x y : Int) : (w.alloc (.cells #[.int .i64 x, .int .i64 y] 25)).cell? ⟨w.heap.size, 1, none⟩ = some (.int .i64 y) := by simp
theorem cell_kept {w w' : World} {p : Addr} {v : Value} (h : w.cell? p = some v) (hb : Below w.heap.size w w') : w'.cell? p = some v := (hb.cell (World.block_lt_of_cell? _ _ h)).trans h
end Go.Proofs.Ytkoplphcdkmilaa.All
end
section
namespace Go.Proofs.Ytkoplphcdkmilaa.All
open Go.RowKit Go.Proofs.YtkoplphcdkmilaaW.PrintWords Go.Proofs.YtkoplphcdkmilaaW.PrintLast Go.Proofs.YtkoplphcdkmilaaW.PrintMore
set_option linter.unusedVariables false

theorem in_eq (x lo hi : Int) : spec_l1In.f x lo hi = some (decide (lo ≤ x ∧ x ≤ hi)) := by
  unfold spec_l1In.f
  by_cases h : x ≥ lo
  · rw [if_pos h]; simp [show lo ≤ x from h]
  · rw [if_neg h]; simp [show ¬ lo ≤ x from h]

theorem all_l0 (l : List Int) (hl : l.length < 12) : ∀ (m i k : Nat), i + m = l.length → m < k → spec_l1All.l0 k 0 100 l (l.length : Int) (i : Int) = some ((l.drop i).all fun x => decide (0 ≤ x ∧ x ≤ 100))
  | 0, i, k, h, hk => by
    obtain ⟨k, rfl⟩ : ∃ q, k = q + 1 := ⟨k - 1, by omega⟩
    rw [spec_l1All.l0, if_neg (by omega), List.drop_eq_nil_of_le (by omega)]; rfl
  | m + 1, i, k, h, hk => by
    obtain ⟨k, rfl⟩ : ∃ q, k = q + 1 := ⟨k - 1, by omega⟩
    have hi : i < l.length := by omega
    have hr : rd l (i : Int) = l[i] := by unfold rd; simp [hi]
    have hw : wrap64 ((i : Int) + 1) = ((i + 1 : Nat) : Int) := by unfold wrap64; omega
    rw [spec_l1All.l0, if_pos (by omega), if_pos (by omega), if_pos (by omega), hr, in_eq, Option.bind_some, List.drop_eq_getElem_cons hi, List.all_cons]
    by_cases c : 0 ≤ l[i] ∧ l[i] ≤ 100
    · rw [decide_eq_true c, if_pos rfl, hw, all_l0 l hl m (i + 1) k (by omega) (by omega), Bool.true_and]
    · rw [decide_eq_false c, if_neg (by simp), Bool.false_and]

theorem brLines_eq (l : List Int) (k : Nat) (hk : 20 ≤ k) : spec_brLines.f k l = some (linesB l) := by
  unfold spec_brLines.f linesB
  by_cases h : l.length < 12
  · rw [if_pos (by omega), decide_eq_true h]
    unfold spec_l1All.f
    have e := all_l0 l h l.length 0 k (by omega) (by omega)
    rw [show ((0 : Nat) : Int) = 0 from rfl] at e
    rw [e]
    simp
  · rw [if_neg (by omega), decide_eq_false h]; rfl

theorem specOrder_eq (X Y : List Int) : spec_OrderByLines.f 4000 X Y = impl_OrderByLines.f X Y := by
  unfold spec_OrderByLines.f impl_OrderByLines.f
  rw [brLines_eq X 4000 (by omega), brLines_eq Y 4000 (by omega)]
  simp only [Option.bind_some]
  by_cases h0 : linesB X = true
  · by_cases h1 : linesB Y = true
    · rw [if_pos h0, if_pos h1]
      unfold spec_brOrder.f
      rw [show (100 : Int) = ((100 : Nat) : Int) from rfl, brOrder_all X Y (linesB_len h0) (linesB_len h1) 100 4000 [] (by omega) (by omega) (by simp)]
      simp [h0, h1]
    · rw [if_pos h0, if_neg h1]; simp [h1]
  · rw [if_neg h0]; simp [h0]

theorem rdL_map (js : List Nat) (p i : Nat) (h : i < js.length) : rd_L4 (js.map (rowOf p)) (i : Int) = [wayOf p js[i], (numOf p js[i] : Int)] := by
  rw [← rowOf_eq]; unfold rd_L4; simp [h]

theorem wrap_id {x : Int} (h0 : -9000000000000000000 ≤ x) (h1 : x ≤ 9000000000000000000) : wrap64 x = x := by unfold wrap64; omega
theorem mul_in {c s : Int} (c1 : 0 ≤ c) (c2 : c ≤ 100) (s1 : 1 ≤ s) (s2 : s ≤ 30) : 0 ≤ c * s ∧ c * s ≤ 3000 := ⟨Int.mul_nonneg c1 (by omega), Int.le_trans (Int.mul_le_mul c2 s2 (by omega) (by omega)) (by decide)⟩

theorem specLeast_l0 (X Y : List Int) (js : List Nat) (hX : X.length < 12) (hY : Y.length < 12) (hj : ∀ j, j ∈ js → j < X.length + Y.length) (hlen : js.length < 30) (hc : ∀ j, 0 ≤ cstOf X Y j ∧ cstOf X Y j ≤ 100) : ∀ (m i k : Nat), i + m = js.length → m < k →
    spec_LeastByLines.l0 k X Y (sumL X Y (js.take i)).1 (sumL X Y (js.take i)).2.1 (sumL X Y (js.take i)).2.2 (js.map (rowOf X.length)) ((js.map (rowOf X.length)).length : Int) (i : Int) = some ((sumL X Y js).1, true)
  | 0, i, k, h, hk => by
    obtain ⟨k, rfl⟩ : ∃ q, k = q + 1 := ⟨k - 1, by omega⟩
    rw [spec_LeastByLines.l0, if_neg (by rw [List.length_map]; omega), show js.take i = js by rw [show i = js.length by omega, List.take_length]]
  | m + 1, i, k, h, hk => by
    obtain ⟨k, rfl⟩ : ∃ q, k = q + 1 := ⟨k - 1, by omega⟩
    have hi : i < js.length := by omega
    have ih := specLeast_l0 X Y js hX hY hj hlen hc m (i + 1) k (by omega) (by omega)
    obtain ⟨s1, s2, s3, s4, s5, s6⟩ := sumL_bound (l0 := X) (l1 := Y) hc hlen i (by omega)
    rw [sumL_succ X Y js i hi] at ih
    generalize sumL X Y (js.take i) = s at *
    obtain ⟨c1, c2⟩ := hc js[i]
    have hjm := hj js[i] (List.getElem_mem hi)
    rw [spec_LeastByLines.l0, if_pos (by rw [List.length_map]; omega), if_pos (by omega), if_pos (by rw [List.length_map]; omega), rdL_map js X.length i hi]
    have hw : wrap64 ((i : Int) + 1) = ((i + 1 : Nat) : Int) := by rw [wrap_id (by omega) (by omega)]; rfl
    rw [hw]
    clear hw
    have r0 : rd [wayOf X.length js[i], (numOf X.length js[i] : Int)] 0 = wayOf X.length js[i] := rfl
    have r1 : rd [wayOf X.length js[i], (numOf X.length js[i] : Int)] 1 = (numOf X.length js[i] : Int) := rfl
    rw [r0, r1, if_pos (by simp)]
    unfold stepL at ih
    have hit : i < 30 := by omega
    by_cases hq : js[i] < X.length
    · rw [if_pos hq] at ih
      have hv : rd X (js[i] : Int) = cstOf X Y js[i] := by unfold cstOf rd; simp [List.getElem?_append, hq]
      rw [show wayOf X.length js[i] = 0 by unfold wayOf; rw [if_pos hq], show numOf X.length js[i] = js[i] by unfold numOf; rw [if_pos hq], if_pos rfl, if_pos (by simp), if_pos (by omega), if_pos (by omega), hv]
      have a1 := mul_in c1 c2 s5 (by omega)
      rw [wrap_id (x := cstOf X Y js[i] * s.2.2) (by omega) (by omega), wrap_id (x := s.1 + cstOf X Y js[i] * s.2.2) (by omega) (by omega), wrap_id (x := s.2.1 + 1) (by omega) (by omega)]
      exact ih
    · rw [if_neg hq] at ih
      have hv : rd Y ((js[i] - X.length : Nat) : Int) = cstOf X Y js[i] := by unfold cstOf rd; simp [List.getElem?_append, hq]
      rw [show wayOf X.length js[i] = 1 by unfold wayOf; rw [if_neg hq], show numOf X.length js[i] = js[i] - X.length by unfold numOf; rw [if_neg hq], if_neg (by omega), if_pos (by simp), if_pos (by omega), if_pos (by omega), hv]
      have a1 := mul_in c1 c2 s3 (by omega)
      rw [wrap_id (x := cstOf X Y js[i] * s.2.1) (by omega) (by omega), wrap_id (x := s.1 + cstOf X Y js[i] * s.2.1) (by omega) (by omega), wrap_id (x := s.2.2 + 1) (by omega) (by omega)]
      exact ih

theorem order_len {X Y : List Int} (h0 : linesB X = true) (h1 : linesB Y = true) : (ordI (cstOf X Y) (X.length + Y.length) 100).length = X.length + Y.length := by
  have := (ordI_perm (n := X.length + Y.length) (fun j _ => cst_bounds h0 h1 j)).length_eq
  simpa using this

theorem specLeast_eq (X Y : List Int) : spec_LeastByLines.f 4000 X Y = impl_LeastByLines.f X Y := by
  unfold spec_LeastByLines.f impl_LeastByLines.f
  rw [brLines_eq X 4000 (by omega), brLines_eq Y 4000 (by omega)]
  simp only [Option.bind_some]
  rw [show spec_LeastByLines.j0 4000 = spec_LeastByLines.j0 (3999 + 1) from rfl]
  by_cases h0 : linesB X = true
  · rw [if_pos h0]
    by_cases h1 : linesB Y = true
    · rw [h1, spec_LeastByLines.j0, if_neg (by simp)]
      unfold spec_brOrder.f
      rw [show (100 : Int) = ((100 : Nat) : Int) from rfl, brOrder_all X Y (linesB_len h0) (linesB_len h1) 100 3999 [] (by omega) (by omega) (by simp), Option.bind_some, List.nil_append, ordR_eq]
      have hl := order_len h0 h1
      have hlx := linesB_len h0
      have hly := linesB_len h1
      have e := specLeast_l0 X Y (ordI (cstOf X Y) (X.length + Y.length) 100) hlx hly (fun j hj => (mem_ordI hj).1) (by omega) (cst_bounds h0 h1) (X.length + Y.length) 0 3999 (by omega) (by omega)
      simp only [List.take_zero] at e
      rw [show (sumL X Y []) = (0, 1, 1) from rfl] at e
      rw [show ((0 : Nat) : Int) = 0 from rfl] at e
      simp only [h0, Bool.and_self, if_true]
      exact e
    · rw [spec_LeastByLines.j0, if_pos (by simp [h1])]
      simp [h1]
  · rw [if_neg h0, spec_LeastByLines.j0, if_pos rfl]
    simp [h0]

theorem hSame_l0 (l : List Int) (hl : l.length < 1000) : ∀ (m i k : Nat), i + m = l.length → m < k → laws_hSame.l0 k l l (l.length : Int) (i : Int) = some true
  | 0, i, k, h, hk => by
    obtain ⟨k, rfl⟩ : ∃ q, k = q + 1 := ⟨k - 1, by omega⟩
    rw [laws_hSame.l0, if_neg (by omega)]
  | m + 1, i, k, h, hk => by
    obtain ⟨k, rfl⟩ : ∃ q, k = q + 1 := ⟨k - 1, by omega⟩
    have hw : wrap64 ((i : Int) + 1) = ((i + 1 : Nat) : Int) := by unfold wrap64; omega
    rw [laws_hSame.l0, if_pos (by omega), if_pos (by omega), if_pos (by omega), if_pos (by omega), if_pos rfl, hw, hSame_l0 l hl m (i + 1) k (by omega) (by omega)]
theorem hSame_eq (l : List Int) (hl : l.length < 1000) (k : Nat) (hk : 1000 ≤ k) : laws_hSame.f k l l = some true := by
  unfold laws_hSame.f
  rw [if_pos rfl, show (0 : Int) = ((0 : Nat) : Int) from rfl, hSame_l0 l hl l.length 0 k (by omega) (by omega)]
theorem hRows_l0 (r : List (List Int)) (hl : r.length < 1000) (hr : ∀ l ∈ r, l.length < 1000) : ∀ (m i k : Nat), i + m = r.length → 1000 + m < k → laws_hRows.l0 k r r (r.length : Int) (i : Int) = some true
  | 0, i, k, h, hk => by
    obtain ⟨k, rfl⟩ : ∃ q, k = q + 1 := ⟨k - 1, by omega⟩
    rw [laws_hRows.l0, if_neg (by omega)]
  | m + 1, i, k, h, hk => by
    obtain ⟨k, rfl⟩ : ∃ q, k = q + 1 := ⟨k - 1, by omega⟩
    have hi : i < r.length := by omega
    have hw : wrap64 ((i : Int) + 1) = ((i + 1 : Nat) : Int) := by unfold wrap64; omega
    have hrd : rd_L4 r (i : Int) = r[i] := by unfold rd_L4; simp [hi]
    rw [laws_hRows.l0, if_pos (by omega), if_pos (by omega), if_pos (by omega), if_pos (by omega), hrd, hSame_eq _ (hr _ (List.getElem_mem hi)) k (by omega), Option.bind_some, if_pos rfl, hw, hRows_l0 r hl hr m (i + 1) k (by omega) (by omega)]
theorem hRows_eq (r : List (List Int)) (hl : r.length < 1000) (hr : ∀ l ∈ r, l.length < 1000) : laws_hRows.f 3000 r r = some true := by
  unfold laws_hRows.f
  rw [if_pos rfl, show (0 : Int) = ((0 : Nat) : Int) from rfl, hRows_l0 r hl hr r.length 0 3000 (by omega) (by omega)]

theorem lines_facts {X Y : List Int} {ro : List (List Int)} {ln : Int} (hor : impl_OrderByLines.f X Y = some (ro, true)) (hln : impl_LeastByLines.f X Y = some (ln, true)) :
    ∃ js : List Nat, ro = js.map (rowOf X.length) ∧ ln = (sumL X Y js).1 ∧ js.length = X.length + Y.length ∧ X.length < 12 ∧ Y.length < 12 ∧ (∀ j, j ∈ js → j < X.length + Y.length) ∧ js.Nodup ∧ (∀ j, 0 ≤ cstOf X Y j ∧ cstOf X Y j ≤ 100) ∧ (∀ i (h : i + 1 < js.length), cstOf X Y js[i + 1] ≤ cstOf X Y js[i]) := by
  unfold impl_OrderByLines.f at hor
  unfold impl_LeastByLines.f at hln
  have hor := Option.some.inj hor
  have hln := Option.some.inj hln
  by_cases hl : (linesB X && linesB Y) = true
  · rw [if_pos hl] at hor hln
    simp only [Bool.and_eq_true] at hl
    have hs := ordI_sorted (cstOf X Y) (X.length + Y.length) 100
    refine ⟨ordI (cstOf X Y) (X.length + Y.length) 100, ?_, (Prod.mk.inj hln).1.symm, order_len hl.1 hl.2, linesB_len hl.1, linesB_len hl.2, fun j hj => (mem_ordI hj).1, nodup_of_mlt hs, cst_bounds hl.1 hl.2, fun i h => ?_⟩
    · rw [← ordR_eq]; exact (Prod.mk.inj hor).1.symm
    · have := List.pairwise_iff_getElem.mp hs i (i + 1) (by omega) h (by omega)
      unfold mlt at this
      omega
  · rw [if_neg hl] at hor
    have := (Prod.mk.inj hor).2
    simp at this

def codeOf (p j : Nat) : Nat := 2 * numOf p j + (if j < p then 0 else 1)
theorem code_inj {p j k : Nat} (h : codeOf p j = codeOf p k) : j = k := by
  unfold codeOf numOf at h
  split at h <;> split at h <;> omega
theorem code_lt {p q j : Nat} (h : j < p + q) : codeOf p j < 2 * (p + q) + 2 := by
  unfold codeOf numOf
  split <;> omega
def seenB (p : Nat) (js : List Nat) (i c : Nat) : Bool := decide (c ∈ (js.take i).map (codeOf p))
theorem seen_zero (p : Nat) (js : List Nat) (c : Nat) : seenB p js 0 c = false := by simp [seenB]
theorem seen_new {p : Nat} {js : List Nat} {i : Nat} (hi : i < js.length) (hn : js.Nodup) : seenB p js i (codeOf p js[i]) = false := by
  unfold seenB
  rw [decide_eq_false]
  intro h
  obtain ⟨j, hj, e⟩ := List.mem_map.mp h
  have e := code_inj e
  subst e
  obtain ⟨k, hk, ek⟩ := List.mem_take_iff_getElem.mp hj
  exact List.pairwise_iff_getElem.mp hn k i (by omega) hi (by omega) ek
theorem seen_succ {p : Nat} {js : List Nat} {i : Nat} (hi : i < js.length) (c : Nat) : seenB p js (i + 1) c = (seenB p js i c || decide (c = codeOf p js[i])) := by
  unfold seenB
  rw [List.take_succ_eq_append_getElem hi, List.map_append]
  simp [List.mem_append, Bool.decide_or]
def lastC (X Y : List Int) (js : List Nat) (i : Nat) : Int := if i = 0 then 100 else cstOf X Y (js.getD (i - 1) 0)
theorem last_ge {X Y : List Int} {js : List Nat} (hc : ∀ j, 0 ≤ cstOf X Y j ∧ cstOf X Y j ≤ 100) (hs : ∀ i (h : i + 1 < js.length), cstOf X Y js[i + 1] ≤ cstOf X Y js[i]) {i : Nat} (hi : i < js.length) : cstOf X Y js[i] ≤ lastC X Y js i := by
  unfold lastC
  cases i with
  | zero => rw [if_pos rfl]; exact (hc _).2
  | succ i =>
    rw [if_neg (by omega)]
    have := hs i hi
    simpa [List.getD, show i < js.length by omega] using this
theorem last_succ {X Y : List Int} {js : List Nat} {i : Nat} (hi : i < js.length) : lastC X Y js (i + 1) = cstOf X Y js[i] := by
  unfold lastC
  rw [if_neg (by omega)]
  simp [List.getD, hi]
end Go.Proofs.Ytkoplphcdkmilaa.All
end
section
namespace Go.Proofs.Ytkoplphcdkmilaa.All
open Go.Shelf Go.Lib Go.Sort Go.RowKit Go.Proofs.YtkoplphcdkmilaaW.PrintWords Go.Proofs.YtkoplphcdkmilaaW.PrintLast Go.Proofs.YtkoplphcdkmilaaW.PrintMore GSteps GTab
theorem info4b : (Try.prog.info? 4).map (fun i => (i.zero, i.size, i.bytes)) = some (some (.bool false), 1, 1) := by kernel_rfl
theorem seen_start (W : World) (p : Nat) (js : List Nat) (n : Nat) : Row 4 n (fun _ => True) (fun c => .bool (seenB p js 0 c)) (W.alloc (.cells (madeCells #[.bool false] n) 4)) W.heap.size :=
  (Row.made W (.bool false) n 4).imp (fun _ _ _ => trivial) (fun c _ _ => by simp [seen_zero])
theorem seen_put {w : World} {p n i g cd : Nat} {js : List Nat} (h : Row 4 n (fun _ => True) (fun c => .bool (seenB p js i c)) w g) (hs : ∀ c, seenB p js (i + 1) c = (seenB p js i c || decide (c = cd))) :
    Row 4 n (fun _ => True) (fun c => .bool (seenB p js (i + 1) c)) (w.drew.setCell ⟨g, cd, none⟩ (.bool true)) g :=
  Row.put (W := w.drew) (p := fun _ => True) (v := fun c => .bool (seenB p js i c)) h cd (.bool true) (fun c _ _ => by
    by_cases e : c = cd
    · exact .inl ⟨e, by rw [hs]; simp [e]⟩
    · exact .inr ⟨e, trivial, by rw [hs]; simp [e]⟩)
end Go.Proofs.Ytkoplphcdkmilaa.All
end
