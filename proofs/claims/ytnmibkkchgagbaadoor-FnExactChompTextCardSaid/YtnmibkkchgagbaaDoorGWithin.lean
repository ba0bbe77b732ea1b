/- slices.IndexFunc and slices.ContainsFunc over a list of whole numbers, whatever the function value that is handed in; the call of areWithin: their contracts, in the form of the print. Conditions: the function value's own contract. -/
import Derived.Test.YtnmibkkchgagbaaDoorAx2
import Derived.Test.YtnmibkkchgagbaaDoorGLib
import Derived.Shelf.Abstract
namespace Go.Proofs.YtnmibkkchgagbaaDoor.All
open Go.RowKit Go.Proofs.YtnmibkkchgagbaaDoorW.PrintWords Go.Proofs.YtnmibkkchgagbaaDoorW.PrintLast Go.Proofs.YtnmibkkchgagbaaDoorW.PrintMore Go.Shelf Go.Proofs.YtnmibkkchgagbaaDoor.G
set_option linter.unusedVariables false
set_option linter.unusedSimpArgs false

set_option maxHeartbeats 2000000 in
theorem index_int (g : Nat) (lb : Array Value) (eg : ∀ args w, (callFunc g args).run Tryd.prog w = .ok (.enter g args) w) (p : Int → Bool) (A0 : Option Addr) (c0 : Nat) (l0 : List Int) (w : World) (hr0 : Kd.C (Kd.int .i64) w A0 l0.length l0)
    (hp : ∀ (W : World) (x : Int), Below w.heap.size w W → Calls Tryd.prog g (#[.int .i64 x] ++ lb) W fun e w' => e = .returned (.bool (p x)) ∧ Below W.heap.size W w') :
    Calls Tryd.prog 77 #[.slice A0 l0.length c0, .func (.func g) #[] lb] w fun e w' => e = .returned (.int .i64 (idxOf p l0 0)) ∧ Below w.heap.size w w' := by
  have hl : l0.length ≤ 9223372036854775807 := hr0.2.1
  have HR0 := Aside0.mk hr0
  clear hr0
  have HP := Aside0.mk hp
  clear hp
  go_enter Tryd.func77, Tryd.ntmps77
  go_wp2
  go_loopg [5, 8] l0.length (fun gg _ s8 wr => ∃ kk : Nat, kk ≤ l0.length ∧ l0.length - kk ≤ gg ∧ s8 = .int .i64 kk ∧ Aside0 (Below w.heap.size w wr) ∧ Aside0 (∀ j, j < kk → p (l0.getD j 0) = false))
  case atStart => exact ⟨0, Nat.zero_le _, by omega, rfl, ⟨Below.refl _ w⟩, ⟨fun j hj => absurd hj (Nat.not_lt_zero _)⟩⟩
  case round =>
    obtain ⟨kk, hkk, hg, rfl, BW, AF⟩ := hrel
    by_cases hlt : kk < l0.length
    · have hltz : (kk : Int) < (l0.length : Int) := by omega
      obtain ⟨ad, e, hx0⟩ := Kd.at_int HR0.out (kk : Int) (by omega) hltz
      cases e
      replace hx0 := (BW.out.cell (World.block_lt_of_cell? w _ hx0)).trans hx0
      simp only [Int.toNat_natCast] at hx0
      have hcall := HP.out wr (rd l0 (kk : Int)) BW.out
      have B : Aside0 (l0.getD kk 0 = rd l0 (kk : Int)) := ⟨by simp [rd]⟩
      generalize rd l0 (kk : Int) = y at hx0 hcall B
      cases hq : p y with
      | true =>
        rw [hq] at hcall
        go_wp2_with (go_at_fn g; refine hcall.mono ?_; rintro e w' ⟨rfl, hb'⟩)
        go_ret
        refine ⟨?_, below_then BW.out BW.out.size hb'⟩
        rw [idxOf_hit p 0 l0 0 kk hlt (by rw [B.out]; exact hq) AF.out]
        simp
      | false =>
        rw [hq] at hcall
        go_wp2_with (go_at_fn g; refine hcall.mono ?_; rintro e w' ⟨rfl, hb'⟩)
        go_roundg (l0.length - (kk + 1))
        case measure => omega
        case rel =>
          refine ⟨kk + 1, by omega, by omega, by go_num, ⟨below_then BW.out BW.out.size hb'⟩, ⟨fun j hj => ?_⟩⟩
          by_cases e : j = kk
          · subst e
            rw [B.out]; exact hq
          · exact AF.out j (by omega)
    · have hltz : ¬ (kk : Int) < (l0.length : Int) := by omega
      have hk : kk = l0.length := by omega
      subst hk
      go_wp2
      go_ret
      refine ⟨?_, BW.out⟩
      rw [idxOf_miss p 0 l0 0 AF.out]
      rfl

set_option maxHeartbeats 2000000 in
theorem contains_int (g : Nat) (lb : Array Value) (eg : ∀ args w, (callFunc g args).run Tryd.prog w = .ok (.enter g args) w) (p : Int → Bool) (A0 : Option Addr) (c0 : Nat) (l0 : List Int) (w : World) (hr0 : Kd.C (Kd.int .i64) w A0 l0.length l0)
    (hp : ∀ (W : World) (x : Int), Below w.heap.size w W → Calls Tryd.prog g (#[.int .i64 x] ++ lb) W fun e w' => e = .returned (.bool (p x)) ∧ Below W.heap.size W w') :
    Calls Tryd.prog 70 #[.slice A0 l0.length c0, .func (.func g) #[] lb] w fun e w' => e = .returned (.bool (l0.any p)) ∧ Below w.heap.size w w' := by
  have hIF := index_int g lb eg p A0 c0 l0 w hr0 hp
  rw [← idxOf_nonneg p l0 0]
  clear hr0 hp
  generalize idxOf p l0 0 = r at hIF
  go_enter Tryd.func70, Tryd.ntmps70
  go_wp2_with (go_at_call 77; refine hIF.mono ?_; rintro e w' ⟨rfl, hb⟩)
  go_ret
  exact ⟨rfl, hb⟩

set_option maxHeartbeats 2000000 in
theorem notWithin (W : World) (b1 b2 : Nat) (lo hi x : Int) (h1 : W.cell? ⟨b1, 0, none⟩ = some (.int .i64 lo)) (h2 : W.cell? ⟨b2, 0, none⟩ = some (.int .i64 hi)) :
    Calls Tryd.prog 71 #[.int .i64 x, .pointer (some ⟨b1, 0, none⟩), .pointer (some ⟨b2, 0, none⟩)] W fun e w' => e = .returned (.bool (!decide (lo ≤ x ∧ x ≤ hi))) ∧ Below W.heap.size W w' := by
  have hw : impl_within.f x lo hi = some (decide (lo ≤ x ∧ x ≤ hi)) := by
    unfold impl_within.f
    by_cases h : lo ≤ x
    · simp [h]
    · simp [h]
  have hc := fun w => impl_within.calls x lo hi _ w hw
  clear hw
  generalize decide (lo ≤ x ∧ x ≤ hi) = b at hc
  go_enter Tryd.func71, Tryd.ntmps71
  go_wp2_with (go_at_call 51; refine (hc _).mono ?_; rintro e w' ⟨rfl, hb'⟩)
  go_ret
  exact ⟨rfl, (by first | exact hb' | exact hb'.below)⟩

def impl_areWithin.f (l0 : List Int) (a1 a2 : Int) : Option Bool := some (!(l0.any fun x => !decide (a1 ≤ x ∧ x ≤ a2)))
set_option maxHeartbeats 2000000 in
theorem impl_areWithin.calls (A0 : Option Addr) (c0 : Nat) (l0 : List Int) (a1 : Int) (a2 : Int) (r : Bool) (w : World) (hr0 : Kd.C (Kd.int .i64) w A0 l0.length l0) (hc0 : l0.length ≤ c0) (h : impl_areWithin.f l0 a1 a2 = some r) :
    Calls Tryd.prog 59 #[.slice A0 l0.length c0, .int .i64 a1, .int .i64 a2] w fun e w' => e = .returned (.bool r) ∧ Below w.heap.size w w' := by
  unfold impl_areWithin.f at h
  injection h with h
  have eg : ∀ args w, (callFunc 71 args).run Tryd.prog w = .ok (.enter 71 args) w := enters_of Tryd.func71 (by kernel_rfl) rfl
  have HC := Aside0.mk (Kd.C_alloc (Kd.C_alloc hr0 (.cells #[.int .i64 a1] 3)) (.cells #[.int .i64 a2] 3))
  have hcall : Calls Tryd.prog 70 #[.slice A0 l0.length c0, .func (.func 71) #[] #[.pointer (some ⟨w.heap.size, 0, none⟩), .pointer (some ⟨w.heap.size + 1, 0, none⟩)]] ((w.alloc (.cells #[.int .i64 a1] 3)).alloc (.cells #[.int .i64 a2] 3)) fun e w' => e = .returned (.bool (l0.any fun x => !decide (a1 ≤ x ∧ x ≤ a2))) ∧ Below w.heap.size w w' := by
    refine (contains_int 71 #[.pointer (some ⟨w.heap.size, 0, none⟩), .pointer (some ⟨w.heap.size + 1, 0, none⟩)] eg (fun x => !decide (a1 ≤ x ∧ x ≤ a2)) A0 c0 l0 _ HC.out (fun W x hW => ?_)).mono ?_
    · have b1 : ((w.alloc (.cells #[.int .i64 a1] 3)).alloc (.cells #[.int .i64 a2] 3)).heap[w.heap.size]? = some (.cells #[.int .i64 a1] 3 (0, 0)) := blk_alloc (blk_new w _) _
      have b2 : ((w.alloc (.cells #[.int .i64 a1] 3)).alloc (.cells #[.int .i64 a2] 3)).heap[w.heap.size + 1]? = some (.cells #[.int .i64 a2] 3 (0, 0)) := by
        have hn : w.heap.size + 1 = (w.alloc (.cells #[.int .i64 a1] 3)).heap.size := by simp
        rw [hn]
        exact blk_new _ _
      exact notWithin W _ _ a1 a2 x ((blk_cell (blk_below b1 hW) 0).trans rfl) ((blk_cell (blk_below b2 hW) 0).trans rfl)
    · rintro e w' ⟨rfl, hb⟩
      exact ⟨rfl, below_then (below_alloc (below_alloc (Below.refl _ _) _) _) (by simp; omega) hb⟩
  rw [← h]
  generalize (l0.any fun x => !decide (a1 ≤ x ∧ x ≤ a2)) = b at hcall
  clear hr0 h
  go_enter Tryd.func59, Tryd.ntmps59
  go_wp2_with (go_at_call 70; refine hcall.mono ?_; rintro e w' ⟨rfl, hb⟩)
  go_ret
  exact ⟨rfl, hb⟩
end Go.Proofs.YtnmibkkchgagbaaDoor.All
