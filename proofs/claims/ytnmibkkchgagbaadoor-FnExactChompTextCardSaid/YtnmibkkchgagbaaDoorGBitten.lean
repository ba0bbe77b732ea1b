/- impl.bitten hands back a chomp behind a bite: its contract, in the form of the print. Conditions: a place in the chomp that is not negative; at most a million rows. -/
import Derived.Test.YtnmibkkchgagbaaDoorGDel
import Derived.Test.YtnmibkkchgagbaaDoorGClone
namespace Go.Proofs.YtnmibkkchgagbaaDoor.All
open Go.RowKit Go.Proofs.YtnmibkkchgagbaaDoorW.PrintWords Go.Proofs.YtnmibkkchgagbaaDoorW.PrintLast Go.Proofs.YtnmibkkchgagbaaDoorW.PrintMore Go.Shelf Go.Proofs.YtnmibkkchgagbaaDoor.G
attribute [local go_sem] max2_int min2_int
set_option linter.unusedVariables false
set_option linter.unusedSimpArgs false

def mnx (x n : Int) : Int := if x < n then x else n
def bit (rows : List Int) (x y : Int) : List Int := ((rows.take y.toNat) ++ (rows.drop y.toNat).map (mnx x)).filter (fun n => !(n == 0))
def impl_bitten.f (l0 : List Int) (a1 a2 : Int) : Option (List Int) := if 0 ≤ a2 ∧ l0.length ≤ 1000000 then some (bit l0 a1 a2) else none
theorem isNil (x : Int) (W : World) : Calls Tryd.prog 76 #[.int .i64 x] W fun e w' => e = .returned (.bool (x == 0)) ∧ Below W.heap.size W w' := by
  go_enter Tryd.func76, Tryd.ntmps76
  go_wp2
  go_ret
  exact ⟨rfl, Below.refl _ _⟩
/-- Behind the first j rows of a bite at y. -/
structure Mid (l0 : List Int) (x : Int) (y j : Nat) (L : List Int) : Prop where
  len : L.length = l0.length
  at_ : ∀ i, L.getD i 0 = if y ≤ i ∧ i < j then mnx x (l0.getD i 0) else l0.getD i 0
theorem Mid.done {l0 L : List Int} {x : Int} {y j : Nat} (h : Mid l0 x y j L) (hj : l0.length ≤ j) : L = l0.take y ++ (l0.drop y).map (mnx x) := by
  apply List.ext_getElem
  · rw [h.len, List.length_append, List.length_map, List.length_take, List.length_drop]; omega
  · intro i h1 h2
    have h3 : i < l0.length := by rw [← h.len]; exact h1
    have h4 := h.at_ i
    rw [List.getD_eq_getElem?_getD, List.getElem?_eq_getElem h1, List.getD_eq_getElem?_getD, List.getElem?_eq_getElem h3] at h4
    simp only [Option.getD_some] at h4
    rw [h4]
    by_cases hy : i < y
    · rw [if_neg (by omega), List.getElem_append_left (by rw [List.length_take]; omega), List.getElem_take]
    · rw [if_pos (by omega), List.getElem_append_right (by rw [List.length_take]; omega), List.getElem_map, List.getElem_drop]
      congr 2
      rw [List.length_take]
      omega
theorem Mid.step {l0 L : List Int} {x : Int} {y j : Nat} (h : Mid l0 x y j L) (hy : y ≤ j) (hj : j < l0.length) : Mid l0 x y (j + 1) (L.set j (mnx x (L.getD j 0))) := by
  refine ⟨by rw [List.length_set]; exact h.len, fun i => ?_⟩
  have hlt : j < L.length := by rw [h.len]; exact hj
  by_cases e : i = j
  · subst e
    rw [if_pos (by omega), List.getD_eq_getElem?_getD, List.getElem?_set_self hlt, Option.getD_some, h.at_ i, if_neg (by omega)]
  · rw [List.getD_eq_getElem?_getD, List.getElem?_set_ne (by omega), ← List.getD_eq_getElem?_getD, h.at_ i]
    by_cases h2 : y ≤ i ∧ i < j
    · rw [if_pos h2, if_pos (by omega)]
    · rw [if_neg h2, if_neg (by omega)]

set_option maxHeartbeats 4000000 in
theorem impl_bitten.calls (A0 : Option Addr) (c0 : Nat) (l0 : List Int) (a1 : Int) (a2 : Int) (r : List Int) (w : World) (hr0 : Kd.C (Kd.int .i64) w A0 l0.length l0) (hc0 : l0.length ≤ c0) (h : impl_bitten.f l0 a1 a2 = some r) :
    Calls Tryd.prog 66 #[.slice A0 l0.length c0, .int .i64 a1, .int .i64 a2] w fun e w' => ∃ v0_ : Value, e = .returned (v0_) ∧ Kd.R (Kd.int .i64) 3 w' w.heap.size (fun _ => True) v0_ r ∧ Below w.heap.size w w' := by
  unfold impl_bitten.f at h
  split at h
  case isFalse => cases h
  case isTrue hc =>
    injection h with h
    have hcl := slices_Clone_int_int.calls A0 c0 l0 l0 w hr0 hc0 (by unfold slices_Clone_int_int.f; rw [if_pos (by omega)])
    obtain ⟨y, rfl⟩ := Int.eq_ofNat_of_zero_le hc.1
    have hlen := hc.2
    have HH := Aside0.mk h
    clear hr0 h hc
    have eg : ∀ args w, (callFunc 76 args).run Tryd.prog w = .ok (.enter 76 args) w := enters_of Tryd.func76 (by kernel_rfl) rfl
    go_enter Tryd.func66, Tryd.ntmps66
    go_wp2_with (go_at_call 64; refine hcl.mono ?_; rintro e w1 ⟨v1, rfl, hr1, hb1⟩; obtain ⟨A1, c1, rfl, hc1, _⟩ := Kd.R_reads hr1; have HR1 := Aside0.mk hr1; have HB1 := Aside0.mk hb1; clear hr1 hb1)
    clear hcl
    go_loopg [8] (l0.length - y) (fun gg s8 wr => ∃ (j : Nat) (L : List Int), s8 = .int .i64 j ∧ y ≤ j ∧ (j ≤ l0.length ∨ j = y) ∧ l0.length - j ≤ gg ∧ Aside0 (Mid l0 a1 y j L) ∧ Aside0 (Kd.R (Kd.int .i64) 3 wr w.heap.size (fun _ => True) (.slice A1 l0.length c1) L) ∧ Aside0 (Below w.heap.size w wr))
    case atStart => exact ⟨y, l0, rfl, Nat.le_refl _, .inr rfl, Nat.le_refl _, ⟨⟨rfl, fun i => by rw [if_neg (by omega)]⟩⟩, HR1, HB1⟩
    case round =>
      clear HR1 HB1
      obtain ⟨j, L, rfl, hyj, hjl, hgg, HM, HR, HB⟩ := hrel
      by_cases hlt : j < l0.length
      · have hltz : (j : Int) < (l0.length : Int) := by omega
        have hLl := HM.out.len
        obtain ⟨gr, cap, e2, hgb, hglt, _⟩ := Kd.R_form HR.out (by omega)
        rw [hLl] at e2
        clear hLl
        injection e2 with e3 _ e4
        subst e3; subst e4
        obtain ⟨hx0, hf0⟩ := Kd.R_celln (0 : Int) HR.out (j : Int) (by omega) hltz
        simp only [Int.toNat_natCast] at hx0 hf0
        have hrd : rdOf (0 : Int) L (j : Int) = L.getD j 0 := by simp [rdOf]
        rw [hrd] at hx0
        have HP := Aside0.mk (Kd.R_putg HR.out (j : Int) (mnx a1 (L.getD j 0)))
        have HS := Aside0.mk (HM.out.step hyj hlt)
        have hmn : (if a1 < L.getD j 0 then a1 else L.getD j 0) = mnx a1 (L.getD j 0) := rfl
        generalize L.getD j 0 = z at hx0 HP HS hmn
        clear hrd
        go_wp2
        go_roundg (l0.length - (j + 1))
        case measure => omega
        case rel =>
          refine ⟨j + 1, L.set j (mnx a1 z), by go_num, by omega, by omega, by omega, HS, ⟨?_⟩, ⟨HB.out.setCell (p := ⟨gr, j, none⟩) hgb _⟩⟩
          have := HP.out.1
          simp only [Int.toNat_natCast] at this
          exact this
      · have hltz : ¬ (j : Int) < (l0.length : Int) := by omega
        have hd := HM.out.done (by omega)
        have hlL := HM.out.len
        have HLL := Aside0.mk hlL
        have hdel := delete_int 76 #[] eg (fun n => n == 0) w.heap.size w (.slice A1 l0.length c1) L wr HB.out HB.out.size HR.out (fun W x _ _ => isNil x W)
        have HD := Aside0.mk hd
        clear hd hlL
        go_wp2_with (go_at_call 75; refine hdel.mono ?_; rintro e w' ⟨v', rfl, hr', hb'⟩; have HR2 := Aside0.mk hr'; have HB2 := Aside0.mk hb'; clear hr' hb')
        go_ret
        refine ⟨_, rfl, ?_, HB2.out⟩
        rw [← HH.out]
        unfold bit
        rw [Int.toNat_natCast, ← HD.out]
        exact HR2.out
end Go.Proofs.YtnmibkkchgagbaaDoor.All
