/- The calls of slices.IndexFunc, slices.ContainsFunc and slices.DeleteFunc over whole numbers, of areWithin and of bitten, in the form of the print. Conditions: the function value's own contract; as each law states them. -/
import Derived.Test.YtnmibkkchgagbaaDoorAx2
import Derived.Test.YtnmibkkchgagbaaDoorGBase
import Derived.Shelf.Abstract
namespace Go.Proofs.YtnmibkkchgagbaaDoor.All
open Go.RowKit Go.Proofs.YtnmibkkchgagbaaDoorW.PrintWords Go.Proofs.YtnmibkkchgagbaaDoorW.PrintLast Go.Proofs.YtnmibkkchgagbaaDoorW.PrintMore Go.Shelf Go.Proofs.YtnmibkkchgagbaaDoor.G
set_option linter.unusedVariables false
set_option linter.unusedSimpArgs false

set_option maxHeartbeats 2000000 in
theorem index_int (g : Nat) (lb : Array Value) (eg : ∀ args w, (callFunc g args).run Tryd.prog w = .ok (.enter g args) w) (p : Int → Bool) (A0 : Option Addr) (c0 : Nat) (l0 : List Int) (w : World) (hr0 : Kd.C (Kd.int .i64) w A0 l0.length l0)
    (hp : ∀ (W : World) (x : Int), Below w.heap.size w W → Calls Tryd.prog g (#[.int .i64 x] ++ lb) W fun e w' => e = .returned (.bool (p x)) ∧ Below W.heap.size W w') :
    Calls Tryd.prog 77 #[.slice A0 l0.length c0, .func (.func g) #[] lb] w fun e w' => e = .returned (.int .i64 (idxOf p l0 0)) ∧ Below w.heap.size w w' := by
  have hl : l0.length ≤ 9223372036854775807 := hr0.2.1
  have HR0 := Aside0.mk hr0
  clear hr0
  have HP := Aside0.mk hp
  clear hp
  go_enter Tryd.func77, Tryd.ntmps77
  go_wp2
  go_loopg [5, 8] l0.length (fun gg _ s8 wr => ∃ kk : Nat, kk ≤ l0.length ∧ l0.length - kk ≤ gg ∧ s8 = .int .i64 kk ∧ Aside0 (Below w.heap.size w wr) ∧ Aside0 (∀ j, j < kk → p (l0.getD j 0) = false))
  case atStart => exact ⟨0, Nat.zero_le _, by omega, rfl, ⟨Below.refl _ w⟩, ⟨fun j hj => absurd hj (Nat.not_lt_zero _)⟩⟩
  case round =>
    obtain ⟨kk, hkk, hg, rfl, BW, AF⟩ := hrel
    by_cases hlt : kk < l0.length
    · have hltz : (kk : Int) < (l0.length : Int) := by omega
      obtain ⟨ad, e, hx0⟩ := Kd.at_int HR0.out (kk : Int) (by omega) hltz
      cases e
      replace hx0 := (BW.out.cell (World.block_lt_of_cell? w _ hx0)).trans hx0
      simp only [Int.toNat_natCast] at hx0
      have hcall := HP.out wr (rd l0 (kk : Int)) BW.out
      have B : Aside0 (l0.getD kk 0 = rd l0 (kk : Int)) := ⟨by simp [rd]⟩
      generalize rd l0 (kk : Int) = y at hx0 hcall B
      cases hq : p y with
      | true =>
        rw [hq] at hcall
        go_wp2_with (go_at_fn g; refine hcall.mono ?_; rintro e w' ⟨rfl, hb'⟩)
        go_ret
        refine ⟨?_, below_then BW.out BW.out.size hb'⟩
        rw [idxOf_hit p 0 l0 0 kk hlt (by rw [B.out]; exact hq) AF.out]
        simp
      | false =>
        rw [hq] at hcall
        go_wp2_with (go_at_fn g; refine hcall.mono ?_; rintro e w' ⟨rfl, hb'⟩)
        go_roundg (l0.length - (kk + 1))
        case measure => omega
        case rel =>
          refine ⟨kk + 1, by omega, by omega, by go_num, ⟨below_then BW.out BW.out.size hb'⟩, ⟨fun j hj => ?_⟩⟩
          by_cases e : j = kk
          · subst e
            rw [B.out]; exact hq
          · exact AF.out j (by omega)
    · have hltz : ¬ (kk : Int) < (l0.length : Int) := by omega
      have hk : kk = l0.length := by omega
      subst hk
      go_wp2
      go_ret
      refine ⟨?_, BW.out⟩
      rw [idxOf_miss p 0 l0 0 AF.out]
      rfl

set_option maxHeartbeats 2000000 in
theorem contains_int (g : Nat) (lb : Array Value) (eg : ∀ args w, (callFunc g args).run Tryd.prog w = .ok (.enter g args) w) (p : Int → Bool) (A0 : Option Addr) (c0 : Nat) (l0 : List Int) (w : World) (hr0 : Kd.C (Kd.int .i64) w A0 l0.length l0)
    (hp : ∀ (W : World) (x : Int), Below w.heap.size w W → Calls Tryd.prog g (#[.int .i64 x] ++ lb) W fun e w' => e = .returned (.bool (p x)) ∧ Below W.heap.size W w') :
    Calls Tryd.prog 70 #[.slice A0 l0.length c0, .func (.func g) #[] lb] w fun e w' => e = .returned (.bool (l0.any p)) ∧ Below w.heap.size w w' := by
  have hIF := index_int g lb eg p A0 c0 l0 w hr0 hp
  rw [← idxOf_nonneg p l0 0]
  clear hr0 hp
  generalize idxOf p l0 0 = r at hIF
  go_enter Tryd.func70, Tryd.ntmps70
  go_wp2_with (go_at_call 77; refine hIF.mono ?_; rintro e w' ⟨rfl, hb⟩)
  go_ret
  exact ⟨rfl, hb⟩

set_option maxHeartbeats 2000000 in
theorem notWithin (W : World) (b1 b2 : Nat) (lo hi x : Int) (h1 : W.cell? ⟨b1, 0, none⟩ = some (.int .i64 lo)) (h2 : W.cell? ⟨b2, 0, none⟩ = some (.int .i64 hi)) :
    Calls Tryd.prog 71 #[.int .i64 x, .pointer (some ⟨b1, 0, none⟩), .pointer (some ⟨b2, 0, none⟩)] W fun e w' => e = .returned (.bool (!decide (lo ≤ x ∧ x ≤ hi))) ∧ Below W.heap.size W w' := by
  have hw : impl_within.f x lo hi = some (decide (lo ≤ x ∧ x ≤ hi)) := by
    unfold impl_within.f
    by_cases h : lo ≤ x
    · simp [h]
    · simp [h]
  have hc := fun w => impl_within.calls x lo hi _ w hw
  clear hw
  generalize decide (lo ≤ x ∧ x ≤ hi) = b at hc
  go_enter Tryd.func71, Tryd.ntmps71
  go_wp2_with (go_at_call 51; refine (hc _).mono ?_; rintro e w' ⟨rfl, hb'⟩)
  go_ret
  exact ⟨rfl, (by first | exact hb' | exact hb'.below)⟩

def impl_areWithin.f (l0 : List Int) (a1 a2 : Int) : Option Bool := some (!(l0.any fun x => !decide (a1 ≤ x ∧ x ≤ a2)))
set_option maxHeartbeats 2000000 in
theorem impl_areWithin.calls (A0 : Option Addr) (c0 : Nat) (l0 : List Int) (a1 : Int) (a2 : Int) (r : Bool) (w : World) (hr0 : Kd.C (Kd.int .i64) w A0 l0.length l0) (hc0 : l0.length ≤ c0) (h : impl_areWithin.f l0 a1 a2 = some r) :
    Calls Tryd.prog 59 #[.slice A0 l0.length c0, .int .i64 a1, .int .i64 a2] w fun e w' => e = .returned (.bool r) ∧ Below w.heap.size w w' := by
  unfold impl_areWithin.f at h
  injection h with h
  have eg : ∀ args w, (callFunc 71 args).run Tryd.prog w = .ok (.enter 71 args) w := enters_of Tryd.func71 (by kernel_rfl) rfl
  have HC := Aside0.mk (Kd.C_alloc (Kd.C_alloc hr0 (.cells #[.int .i64 a1] 3)) (.cells #[.int .i64 a2] 3))
  have hcall : Calls Tryd.prog 70 #[.slice A0 l0.length c0, .func (.func 71) #[] #[.pointer (some ⟨w.heap.size, 0, none⟩), .pointer (some ⟨w.heap.size + 1, 0, none⟩)]] ((w.alloc (.cells #[.int .i64 a1] 3)).alloc (.cells #[.int .i64 a2] 3)) fun e w' => e = .returned (.bool (l0.any fun x => !decide (a1 ≤ x ∧ x ≤ a2))) ∧ Below w.heap.size w w' := by
    refine (contains_int 71 #[.pointer (some ⟨w.heap.size, 0, none⟩), .pointer (some ⟨w.heap.size + 1, 0, none⟩)] eg (fun x => !decide (a1 ≤ x ∧ x ≤ a2)) A0 c0 l0 _ HC.out (fun W x hW => ?_)).mono ?_
    · have b1 : ((w.alloc (.cells #[.int .i64 a1] 3)).alloc (.cells #[.int .i64 a2] 3)).heap[w.heap.size]? = some (.cells #[.int .i64 a1] 3 (0, 0)) := blk_alloc (blk_new w _) _
      have b2 : ((w.alloc (.cells #[.int .i64 a1] 3)).alloc (.cells #[.int .i64 a2] 3)).heap[w.heap.size + 1]? = some (.cells #[.int .i64 a2] 3 (0, 0)) := by
        have hn : w.heap.size + 1 = (w.alloc (.cells #[.int .i64 a1] 3)).heap.size := by simp
        rw [hn]
        exact blk_new _ _
      exact notWithin W _ _ a1 a2 x ((blk_cell (blk_below b1 hW) 0).trans rfl) ((blk_cell (blk_below b2 hW) 0).trans rfl)
    · rintro e w' ⟨rfl, hb⟩
      exact ⟨rfl, below_then (below_alloc (below_alloc (Below.refl _ _) _) _) (by simp; omega) hb⟩
  rw [← h]
  generalize (l0.any fun x => !decide (a1 ≤ x ∧ x ≤ a2)) = b at hcall
  clear hr0 h
  go_enter Tryd.func59, Tryd.ntmps59
  go_wp2_with (go_at_call 70; refine hcall.mono ?_; rintro e w' ⟨rfl, hb⟩)
  go_ret
  exact ⟨rfl, hb⟩
end Go.Proofs.YtnmibkkchgagbaaDoor.All
namespace Go.Proofs.YtnmibkkchgagbaaDoor.All
open Go.RowKit Go.Proofs.YtnmibkkchgagbaaDoorW.PrintWords Go.Proofs.YtnmibkkchgagbaaDoorW.PrintLast Go.Proofs.YtnmibkkchgagbaaDoorW.PrintMore Go.Shelf Go.Proofs.YtnmibkkchgagbaaDoor.G
set_option linter.unusedVariables false
set_option linter.unusedSimpArgs false

set_option maxHeartbeats 4000000 in
theorem delete_int (g : Nat) (lb : Array Value) (eg : ∀ args w, (callFunc g args).run Tryd.prog w = .ok (.enter g args) w) (p : Int → Bool) (base : Nat) (w0 : World) (v0 : Value) (l0 : List Int) (w : World)
    (hw : Below base w0 w) (hbase : base ≤ w.heap.size) (hR : Kd.R (Kd.int .i64) 3 w base (fun _ => True) v0 l0)
    (hp : ∀ (W : World) (x : Int), Below base w0 W → base ≤ W.heap.size → Calls Tryd.prog g (#[.int .i64 x] ++ lb) W fun e w' => e = .returned (.bool (p x)) ∧ Below W.heap.size W w') :
    Calls Tryd.prog 75 #[v0, .func (.func g) #[] lb] w fun e w' => ∃ v' : Value, e = .returned v' ∧ Kd.R (Kd.int .i64) 3 w' base (fun _ => True) v' (l0.filter fun x => !p x) ∧ Below base w0 w' := by
  obtain ⟨A0, c0, rfl, hc0, hC⟩ := Kd.R_reads hR
  have hl : l0.length ≤ 9223372036854775807 := hC.2.1
  have hIF := index_int g lb eg p A0 c0 l0 w hC (fun W x hW => hp W x (below_then hw hbase hW) (Nat.le_trans hbase hW.size))
  have HR := Aside0.mk hR
  have HW := Aside0.mk hw
  have HP := Aside0.mk hp
  clear hR hw hp hC
  rcases idxOf_spec p (0 : Int) l0 0 with ⟨e1, hn⟩ | ⟨k0, hk0, e1, ht, hn⟩
  · rw [e1] at hIF
    rw [filter_none 0 hn]
    clear hn e1
    go_enter Tryd.func75, Tryd.ntmps75
    go_wp2_with (go_at_call 77; refine hIF.mono ?_; rintro e w' ⟨rfl, hb⟩)
    go_ret
    exact ⟨_, rfl, Kd.R_below HR.out hb, below_then HW.out hbase hb⟩
  · rw [e1, Nat.zero_add] at hIF
    have hne1 : ((k0 : Int) == -1) = false := beq_eq_false_iff_ne.2 (by omega)
    have SV : Aside0 (Sieve p l0 k0 (k0 + 1) l0) := ⟨Sieve.start 0 hk0 ht hn⟩
    obtain ⟨gr, cap, e2, hgb, hglt, _⟩ := Kd.R_form HR.out (by omega)
    injection e2 with e3 _ e4
    subst e3; subst e4
    clear hn e1 ht
    go_enter Tryd.func75, Tryd.ntmps75
    go_wp2_with (go_at_call 77; refine hIF.mono ?_; rintro e w' ⟨rfl, hb⟩; have HB1 := Aside0.mk hb; clear hb)
    clear hIF
    go_loopg [5, 6, 7] l0.length (fun gg s5 s6 _ wr => ∃ (i j : Nat) (L : List Int), s5 = .int .i64 i ∧ s6 = .int .i64 j ∧ j ≤ l0.length ∧ i < j ∧ l0.length - j ≤ gg ∧ Aside0 (base ≤ wr.heap.size) ∧ Aside0 (Below base w0 wr) ∧ Aside0 (Kd.R (Kd.int .i64) 3 wr base (fun _ => True) (.slice (some ⟨gr, 0, none⟩) l0.length c0) L) ∧ Aside0 (Sieve p l0 i j L))
    case atStart => exact ⟨k0, k0 + 1, l0, rfl, by go_num, by omega, by omega, by omega, ⟨Nat.le_trans hbase HB1.out.size⟩, ⟨below_then HW.out hbase HB1.out⟩, ⟨Kd.R_below HR.out HB1.out⟩, SV⟩
    case round =>
      clear SV HR
      obtain ⟨i, j, L, rfl, rfl, hj, hij, hgg, HZ, HB, HO, SV⟩ := hrel
      by_cases hlt : j < l0.length
      · have hltz : (j : Int) < (l0.length : Int) := by omega
        have hiz : (i : Int) < (l0.length : Int) := by omega
        have hx0 := (Kd.R_celln (0 : Int) HO.out (j : Int) (by omega) hltz).1
        simp only [Int.toNat_natCast] at hx0
        have hrd : rdOf (0 : Int) L (j : Int) = L.getD j 0 := by simp [rdOf]
        rw [hrd] at hx0
        have hcall := fun W hW hZ => HP.out W (L.getD j 0) hW hZ
        have E : Aside0 (L.getD j 0 = l0.getD j 0) := ⟨SV.out.at 0 hlt⟩
        generalize hy : L.getD j 0 = y at hx0 hcall E
        have EY := Aside0.mk hy
        clear hy hrd
        cases hq : p y with
        | true =>
          simp only [hq] at hcall
          go_wp2_with (go_at_fn g; refine (hcall _ HB.out HZ.out).mono ?_; rintro e w' ⟨rfl, hb'⟩; have HB2 := Aside0.mk hb'; clear hb')
          go_roundg (l0.length - (j + 1))
          case measure => omega
          case rel =>
            have hz : wr.heap.size ≤ w'.heap.size := HB2.out.size
            exact ⟨i, j + 1, L, rfl, by go_num, by omega, by omega, by omega, ⟨Nat.le_trans HZ.out hz⟩, ⟨below_then HB.out HZ.out HB2.out⟩, ⟨Kd.R_below HO.out HB2.out⟩, ⟨SV.out.skip 0 hlt (by rw [← E.out]; exact hq)⟩⟩
        | false =>
          simp only [hq] at hcall
          go_wp2_with (go_at_fn g; refine (hcall _ HB.out HZ.out).mono ?_; rintro e w' ⟨rfl, hb'⟩; have HB2 := Aside0.mk hb'; clear hb'; have HO2 := Aside0.mk (Kd.R_below HO.out HB2.out); obtain ⟨hi0, hf0⟩ := Kd.R_celln (0 : Int) HO2.out (i : Int) (by omega) hiz; simp only [Int.toNat_natCast] at hi0 hf0)
          have HP3 := Kd.R_putg HO2.out (i : Int) y
          have hz : wr.heap.size ≤ w'.heap.size := HB2.out.size
          have HB3 := below_then HB.out HZ.out HB2.out
          go_roundg (l0.length - (j + 1))
          case measure => omega
          case rel =>
            refine ⟨i + 1, j + 1, L.set i y, by go_num, by go_num, by omega, by omega, by omega, ⟨?_⟩, ⟨?_⟩, ⟨?_⟩, ⟨?_⟩⟩
            · exact Nat.le_trans (Nat.le_trans HZ.out hz) (by simp [World.setCell])
            · exact HB3.setCell (p := ⟨gr, i, none⟩) hgb _
            · have := HP3.1
              simp only [Int.toNat_natCast] at this
              exact this
            · have := SV.out.keep 0 hlt (by rw [← E.out]; exact hq)
              rw [← E.out] at this
              exact this
      · have hltz : ¬ (j : Int) < (l0.length : Int) := by omega
        obtain rfl : j = l0.length := by omega
        have hin : i < l0.length := by omega
        have hle : (i : Int) ≤ (l0.length : Int) := by omega
        have hclr := fun ty => run_clear (P := Tryd.prog) wr 22 3 ty (.int .i64 0) Tryd.underlying22 (fun _ => by kernel_rfl) (by simp [Value.cells, Value.oneCell']) gr i (l0.length - i) (c0 - i) (by omega) (fun q hq => by
          have := R_cells HO.out (i + q) (by
            have h1 : q < 1 * (l0.length - i) := hq
            have h2 : (Kd.int .i64).sz = 1 := rfl
            rw [h2]; omega)
          exact this)
        have hil : L.length = l0.length := SV.out.len
        have hT := Aside0.mk (R_setCells_behind (Builtin.zeroCells (Value.int .i64 0).cells (l0.length - i)).toList i (Kd.R_take HO.out (show i ≤ L.length by omega)) (by show i * 1 ≤ i; omega))
        have hD := Aside0.mk SV.out.done
        have HB3 := Aside0.mk (below_setCells gr hgb (Builtin.zeroCells (Value.int .i64 0).cells (l0.length - i)).toList i HB.out)
        clear hil HP
        go_wp2
        go_ret
        refine ⟨_, rfl, ?_, HB3.out⟩
        have h9 := hT.out
        rw [hD.out] at h9
        exact h9
end Go.Proofs.YtnmibkkchgagbaaDoor.All
namespace Go.Proofs.YtnmibkkchgagbaaDoor.All
open Go.RowKit Go.Proofs.YtnmibkkchgagbaaDoorW.PrintWords Go.Proofs.YtnmibkkchgagbaaDoorW.PrintLast Go.Proofs.YtnmibkkchgagbaaDoorW.PrintMore Go.Shelf Go.Proofs.YtnmibkkchgagbaaDoor.G
attribute [local go_sem] max2_int min2_int
set_option linter.unusedVariables false
set_option linter.unusedSimpArgs false

def mnx (x n : Int) : Int := if x < n then x else n
def bit (rows : List Int) (x y : Int) : List Int := ((rows.take y.toNat) ++ (rows.drop y.toNat).map (mnx x)).filter (fun n => !(n == 0))
def impl_bitten.f (l0 : List Int) (a1 a2 : Int) : Option (List Int) := if 0 ≤ a2 ∧ l0.length ≤ 1000000 then some (bit l0 a1 a2) else none
theorem isNil (x : Int) (W : World) : Calls Tryd.prog 76 #[.int .i64 x] W fun e w' => e = .returned (.bool (x == 0)) ∧ Below W.heap.size W w' := by
  go_enter Tryd.func76, Tryd.ntmps76
  go_wp2
  go_ret
  exact ⟨rfl, Below.refl _ _⟩
/-- Behind the first j rows of a bite at y. -/
structure Mid (l0 : List Int) (x : Int) (y j : Nat) (L : List Int) : Prop where
  len : L.length = l0.length
  at_ : ∀ i, L.getD i 0 = if y ≤ i ∧ i < j then mnx x (l0.getD i 0) else l0.getD i 0
theorem Mid.done {l0 L : List Int} {x : Int} {y j : Nat} (h : Mid l0 x y j L) (hj : l0.length ≤ j) : L = l0.take y ++ (l0.drop y).map (mnx x) := by
  apply List.ext_getElem
  · rw [h.len, List.length_append, List.length_map, List.length_take, List.length_drop]; omega
  · intro i h1 h2
    have h3 : i < l0.length := by rw [← h.len]; exact h1
    have h4 := h.at_ i
    rw [List.getD_eq_getElem?_getD, List.getElem?_eq_getElem h1, List.getD_eq_getElem?_getD, List.getElem?_eq_getElem h3] at h4
    simp only [Option.getD_some] at h4
    rw [h4]
    by_cases hy : i < y
    · rw [if_neg (by omega), List.getElem_append_left (by rw [List.length_take]; omega), List.getElem_take]
    · rw [if_pos (by omega), List.getElem_append_right (by rw [List.length_take]; omega), List.getElem_map, List.getElem_drop]
      congr 2
      rw [List.length_take]
      omega
theorem Mid.step {l0 L : List Int} {x : Int} {y j : Nat} (h : Mid l0 x y j L) (hy : y ≤ j) (hj : j < l0.length) : Mid l0 x y (j + 1) (L.set j (mnx x (L.getD j 0))) := by
  refine ⟨by rw [List.length_set]; exact h.len, fun i => ?_⟩
  have hlt : j < L.length := by rw [h.len]; exact hj
  by_cases e : i = j
  · subst e
    rw [if_pos (by omega), List.getD_eq_getElem?_getD, List.getElem?_set_self hlt, Option.getD_some, h.at_ i, if_neg (by omega)]
  · rw [List.getD_eq_getElem?_getD, List.getElem?_set_ne (by omega), ← List.getD_eq_getElem?_getD, h.at_ i]
    by_cases h2 : y ≤ i ∧ i < j
    · rw [if_pos h2, if_pos (by omega)]
    · rw [if_neg h2, if_neg (by omega)]

set_option maxHeartbeats 4000000 in
theorem impl_bitten.calls (A0 : Option Addr) (c0 : Nat) (l0 : List Int) (a1 : Int) (a2 : Int) (r : List Int) (w : World) (hr0 : Kd.C (Kd.int .i64) w A0 l0.length l0) (hc0 : l0.length ≤ c0) (h : impl_bitten.f l0 a1 a2 = some r) :
    Calls Tryd.prog 66 #[.slice A0 l0.length c0, .int .i64 a1, .int .i64 a2] w fun e w' => ∃ v0_ : Value, e = .returned (v0_) ∧ Kd.R (Kd.int .i64) 3 w' w.heap.size (fun _ => True) v0_ r ∧ Below w.heap.size w w' := by
  unfold impl_bitten.f at h
  split at h
  case isFalse => cases h
  case isTrue hc =>
    injection h with h
    have hcl := slices_Clone_int_int.calls A0 c0 l0 l0 w hr0 hc0 (by unfold slices_Clone_int_int.f; rw [if_pos (by omega)])
    obtain ⟨y, rfl⟩ := Int.eq_ofNat_of_zero_le hc.1
    have hlen := hc.2
    have HH := Aside0.mk h
    clear hr0 h hc
    have eg : ∀ args w, (callFunc 76 args).run Tryd.prog w = .ok (.enter 76 args) w := enters_of Tryd.func76 (by kernel_rfl) rfl
    go_enter Tryd.func66, Tryd.ntmps66
    go_wp2_with (go_at_call 64; refine hcl.mono ?_; rintro e w1 ⟨v1, rfl, hr1, hb1⟩; obtain ⟨A1, c1, rfl, hc1, _⟩ := Kd.R_reads hr1; have HR1 := Aside0.mk hr1; have HB1 := Aside0.mk hb1; clear hr1 hb1)
    clear hcl
    go_loopg [8] (l0.length - y) (fun gg s8 wr => ∃ (j : Nat) (L : List Int), s8 = .int .i64 j ∧ y ≤ j ∧ (j ≤ l0.length ∨ j = y) ∧ l0.length - j ≤ gg ∧ Aside0 (Mid l0 a1 y j L) ∧ Aside0 (Kd.R (Kd.int .i64) 3 wr w.heap.size (fun _ => True) (.slice A1 l0.length c1) L) ∧ Aside0 (Below w.heap.size w wr))
    case atStart => exact ⟨y, l0, rfl, Nat.le_refl _, .inr rfl, Nat.le_refl _, ⟨⟨rfl, fun i => by rw [if_neg (by omega)]⟩⟩, HR1, HB1⟩
    case round =>
      clear HR1 HB1
      obtain ⟨j, L, rfl, hyj, hjl, hgg, HM, HR, HB⟩ := hrel
      by_cases hlt : j < l0.length
      · have hltz : (j : Int) < (l0.length : Int) := by omega
        have hLl := HM.out.len
        obtain ⟨gr, cap, e2, hgb, hglt, _⟩ := Kd.R_form HR.out (by omega)
        rw [hLl] at e2
        clear hLl
        injection e2 with e3 _ e4
        subst e3; subst e4
        obtain ⟨hx0, hf0⟩ := Kd.R_celln (0 : Int) HR.out (j : Int) (by omega) hltz
        simp only [Int.toNat_natCast] at hx0 hf0
        have hrd : rdOf (0 : Int) L (j : Int) = L.getD j 0 := by simp [rdOf]
        rw [hrd] at hx0
        have HP := Aside0.mk (Kd.R_putg HR.out (j : Int) (mnx a1 (L.getD j 0)))
        have HS := Aside0.mk (HM.out.step hyj hlt)
        have hmn : (if a1 < L.getD j 0 then a1 else L.getD j 0) = mnx a1 (L.getD j 0) := rfl
        generalize L.getD j 0 = z at hx0 HP HS hmn
        clear hrd
        go_wp2
        go_roundg (l0.length - (j + 1))
        case measure => omega
        case rel =>
          refine ⟨j + 1, L.set j (mnx a1 z), by go_num, by omega, by omega, by omega, HS, ⟨?_⟩, ⟨HB.out.setCell (p := ⟨gr, j, none⟩) hgb _⟩⟩
          have := HP.out.1
          simp only [Int.toNat_natCast] at this
          first
            | exact this
            | (have e : min z a1 = mnx a1 z := by unfold mnx; omega
               rw [e]; exact this)
      · have hltz : ¬ (j : Int) < (l0.length : Int) := by omega
        have hd := HM.out.done (by omega)
        have hlL := HM.out.len
        have HLL := Aside0.mk hlL
        have hdel := delete_int 76 #[] eg (fun n => n == 0) w.heap.size w (.slice A1 l0.length c1) L wr HB.out HB.out.size HR.out (fun W x _ _ => isNil x W)
        have HD := Aside0.mk hd
        clear hd hlL
        go_wp2_with (go_at_call 75; refine hdel.mono ?_; rintro e w' ⟨v', rfl, hr', hb'⟩; have HR2 := Aside0.mk hr'; have HB2 := Aside0.mk hb'; clear hr' hb')
        go_ret
        refine ⟨_, rfl, ?_, HB2.out⟩
        rw [← HH.out]
        unfold bit
        rw [Int.toNat_natCast, ← HD.out]
        exact HR2.out
end Go.Proofs.YtnmibkkchgagbaaDoor.All
