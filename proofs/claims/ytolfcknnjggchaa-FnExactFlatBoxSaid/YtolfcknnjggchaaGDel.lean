/- slices.IndexFunc, slices.ContainsFunc and slices.DeleteFunc over a list of structs of whole numbers, whatever the function value that is handed in: their contracts. Conditions: the function value's own contract; the list is read, or one of the call's own. -/
import Derived.Test.YtolfcknnjggchaaPMx0
import Derived.Test.YtolfcknnjggchaaGLib
import Derived.Shelf.Abstract
namespace Go.Proofs.Ytolfcknnjggchaa.PM
open Go.RowKit Go.Proofs.YtolfcknnjggchaaW.PrintWords Go.Proofs.YtolfcknnjggchaaW.PrintLast Go.Proofs.YtolfcknnjggchaaW.PrintMore Go.Shelf Go.Proofs.Ytolfcknnjggchaa.G
set_option linter.unusedVariables false
set_option linter.unusedSimpArgs false

set_option maxHeartbeats 2000000 in
theorem index_any (g : Nat) (lb : Array Value) (eg : ∀ args w, (callFunc g args).run Try.prog w = .ok (.enter g args) w) (p : S31 → Bool) (A0 : Option Addr) (c0 : Nat) (l0 : List S31) (w : World) (hr0 : Kd.C k31 w A0 l0.length l0)
    (hp : ∀ (W : World) (x : S31), Below w.heap.size w W → Calls Try.prog g (#[.agg #[.int .i64 x.f0, .int .i64 x.f1, .int .i64 x.f2]] ++ lb) W fun e w' => e = .returned (.bool (p x)) ∧ Below W.heap.size W w') :
    Calls Try.prog 62 #[.slice A0 l0.length c0, .func (.func g) #[] lb] w fun e w' => e = .returned (.int .i64 (idxOf p l0 0)) ∧ Below w.heap.size w w' := by
  have hu31 := Try.underlying31
  have hl : l0.length ≤ 9223372036854775807 := hr0.2.1
  have HR0 := Aside0.mk hr0
  clear hr0
  have HP := Aside0.mk hp
  clear hp
  go_enter Try.func62, Try.ntmps62
  go_wp2
  go_loopg [5, 8] l0.length (fun gg _ s8 wr => ∃ kk : Nat, kk ≤ l0.length ∧ l0.length - kk ≤ gg ∧ s8 = .int .i64 kk ∧ Aside0 (Below w.heap.size w wr) ∧ Aside0 (∀ j, j < kk → p (l0.getD j z31) = false))
  case atStart => exact ⟨0, Nat.zero_le _, by omega, rfl, ⟨Below.refl _ w⟩, ⟨fun j hj => absurd hj (Nat.not_lt_zero _)⟩⟩
  case round =>
    obtain ⟨kk, hkk, hg, rfl, BW, AF⟩ := hrel
    by_cases hlt : kk < l0.length
    · have hltz : (kk : Int) < (l0.length : Int) := by omega
      obtain ⟨ad, e, hx0, hx1, hx2⟩ := at_T31 HR0.out (kk : Int) (by omega) hltz
      cases e
      replace hx0 := (BW.out.cell (World.block_lt_of_cell? w _ hx0)).trans hx0
      replace hx1 := (BW.out.cell (World.block_lt_of_cell? w _ hx1)).trans hx1
      replace hx2 := (BW.out.cell (World.block_lt_of_cell? w _ hx2)).trans hx2
      rw [Int.toNat_natCast] at hx0 hx1 hx2
      have hcall := HP.out wr (rd_T31 l0 (kk : Int)) BW.out
      have B : Aside0 (l0.getD kk z31 = rd_T31 l0 (kk : Int)) := ⟨by simp [rd_T31]⟩
      generalize rd_T31 l0 (kk : Int) = y at hx0 hx1 hx2 hcall B
      cases hq : p y with
      | true =>
        rw [hq] at hcall
        go_wp2_with (go_at_fn g; refine hcall.mono ?_; rintro e w' ⟨rfl, hb'⟩)
        go_ret
        refine ⟨?_, below_then BW.out BW.out.size hb'⟩
        rw [idxOf_hit p z31 l0 0 kk hlt (by rw [B.out]; exact hq) AF.out]
        simp
      | false =>
        rw [hq] at hcall
        go_wp2_with (go_at_fn g; refine hcall.mono ?_; rintro e w' ⟨rfl, hb'⟩)
        go_roundg (l0.length - (kk + 1))
        case measure => omega
        case rel =>
          refine ⟨kk + 1, by omega, by omega, by go_num, ⟨below_then BW.out BW.out.size hb'⟩, ⟨fun j hj => ?_⟩⟩
          by_cases e : j = kk
          · subst e
            rw [B.out]; exact hq
          · exact AF.out j (by omega)
    · have hltz : ¬ (kk : Int) < (l0.length : Int) := by omega
      have hk : kk = l0.length := by omega
      subst hk
      go_wp2
      go_ret
      refine ⟨?_, BW.out⟩
      rw [idxOf_miss p z31 l0 0 AF.out]
      rfl

set_option maxHeartbeats 4000000 in
theorem delete_any (g : Nat) (lb : Array Value) (eg : ∀ args w, (callFunc g args).run Try.prog w = .ok (.enter g args) w) (p : S31 → Bool) (base : Nat) (w0 : World) (v0 : Value) (l0 : List S31) (w : World)
    (hw : Below base w0 w) (hbase : base ≤ w.heap.size) (hR : Kd.R k31 31 w base (fun _ => True) v0 l0)
    (hp : ∀ (W : World) (x : S31), Below base w0 W → base ≤ W.heap.size → Calls Try.prog g (#[.agg #[.int .i64 x.f0, .int .i64 x.f1, .int .i64 x.f2]] ++ lb) W fun e w' => e = .returned (.bool (p x)) ∧ Below W.heap.size W w') :
    Calls Try.prog 48 #[v0, .func (.func g) #[] lb] w fun e w' => ∃ v' : Value, e = .returned v' ∧ Kd.R k31 31 w' base (fun _ => True) v' (l0.filter fun x => !p x) ∧ Below base w0 w' := by
  have hu31 := Try.underlying31
  obtain ⟨A0, c0, rfl, hc0, hC⟩ := Kd.R_reads hR
  have hl : l0.length ≤ 9223372036854775807 := hC.2.1
  have hIF := index_any g lb eg p A0 c0 l0 w hC (fun W x hW => hp W x (below_then hw hbase hW) (Nat.le_trans hbase hW.size))
  have HR := Aside0.mk hR
  have HW := Aside0.mk hw
  have HP := Aside0.mk hp
  clear hR hw hp hC
  rcases idxOf_spec p z31 l0 0 with ⟨e1, hn⟩ | ⟨k0, hk0, e1, ht, hn⟩
  · rw [e1] at hIF
    rw [filter_none z31 hn]
    clear hn e1
    go_enter Try.func48, Try.ntmps48
    go_wp2_with (go_at_call 62; refine hIF.mono ?_; rintro e w' ⟨rfl, hb⟩)
    go_ret
    exact ⟨_, rfl, Kd.R_below HR.out hb, below_then HW.out hbase hb⟩
  · rw [e1, Nat.zero_add] at hIF
    have hne1 : ((k0 : Int) == -1) = false := beq_eq_false_iff_ne.2 (by omega)
    have SV : Aside0 (Sieve p l0 k0 (k0 + 1) l0) := ⟨Sieve.start z31 hk0 ht hn⟩
    obtain ⟨gr, cap, e2, hgb, hglt, _⟩ := Kd.R_form HR.out (by omega)
    injection e2 with e3 _ e4
    subst e3; subst e4
    clear hn e1 ht
    go_enter Try.func48, Try.ntmps48
    go_wp2_with (go_at_call 62; refine hIF.mono ?_; rintro e w' ⟨rfl, hb⟩; have HB1 := Aside0.mk hb; clear hb)
    clear hIF
    go_loopg [5, 6, 7] l0.length (fun gg s5 s6 _ wr => ∃ (i j : Nat) (L : List S31), s5 = .int .i64 i ∧ s6 = .int .i64 j ∧ j ≤ l0.length ∧ i < j ∧ l0.length - j ≤ gg ∧ Aside0 (base ≤ wr.heap.size) ∧ Aside0 (Below base w0 wr) ∧ Aside0 (Kd.R k31 31 wr base (fun _ => True) (.slice (some ⟨gr, 0, none⟩) l0.length c0) L) ∧ Aside0 (Sieve p l0 i j L))
    case atStart => exact ⟨k0, k0 + 1, l0, rfl, by go_num, by omega, by omega, by omega, ⟨Nat.le_trans hbase HB1.out.size⟩, ⟨below_then HW.out hbase HB1.out⟩, ⟨Kd.R_below HR.out HB1.out⟩, SV⟩
    case round =>
      clear SV HR
      obtain ⟨i, j, L, rfl, rfl, hj, hij, hgg, HZ, HB, HO, SV⟩ := hrel
      by_cases hlt : j < l0.length
      · have hltz : (j : Int) < (l0.length : Int) := by omega
        have hiz : (i : Int) < (l0.length : Int) := by omega
        obtain ⟨ce, hcl, hM, hcc, _⟩ := Kd.R_elem HO.out z31 (j : Int) (by omega) hltz
        obtain rfl := k31_openM hM
        have hx0 : wr.cell? ⟨gr, (j : Int).toNat * 3, none⟩ = some (.int .i64 (L.getD (j : Int).toNat z31).f0) := hcc 0 _ rfl
        have hx1 : wr.cell? ⟨gr, (j : Int).toNat * 3 + 1, none⟩ = some (.int .i64 (L.getD (j : Int).toNat z31).f1) := hcc 1 _ rfl
        have hx2 : wr.cell? ⟨gr, (j : Int).toNat * 3 + 2, none⟩ = some (.int .i64 (L.getD (j : Int).toNat z31).f2) := hcc 2 _ rfl
        clear hcl hM hcc
        simp only [Int.toNat_natCast] at hx0 hx1 hx2
        have hcall := fun W hW hZ => HP.out W (L.getD j z31) hW hZ
        have E : Aside0 (L.getD j z31 = l0.getD j z31) := ⟨SV.out.at z31 hlt⟩
        generalize hy : L.getD j z31 = y at hx0 hx1 hx2 hcall E
        have EY := Aside0.mk hy
        clear hy
        cases hq : p y with
        | true =>
          simp only [hq] at hcall
          go_wp2_with (go_at_fn g; refine (hcall _ (HB.out.alloc HZ.out _) (by simp; exact Nat.le_succ_of_le HZ.out)).mono ?_; rintro e w' ⟨rfl, hb'⟩; have HB2 := Aside0.mk hb'; clear hb')
          go_roundg (l0.length - (j + 1))
          case measure => omega
          case rel =>
            have hz : wr.heap.size ≤ w'.heap.size := by have := HB2.out.size; simp at this; omega
            exact ⟨i, j + 1, L, rfl, by go_num, by omega, by omega, by omega, ⟨Nat.le_trans HZ.out hz⟩, ⟨below_then (HB.out.alloc HZ.out _) (by simp; exact Nat.le_succ_of_le HZ.out) HB2.out⟩, ⟨Kd.R_below (Kd.R_alloc HO.out _) HB2.out⟩, ⟨SV.out.skip z31 hlt (by rw [← E.out]; exact hq)⟩⟩
        | false =>
          simp only [hq] at hcall
          go_wp2_with (go_at_fn g; refine (hcall _ (HB.out.alloc HZ.out _) (by simp; exact Nat.le_succ_of_le HZ.out)).mono ?_; rintro e w' ⟨rfl, hb'⟩; have HB2 := Aside0.mk hb'; clear hb'; have HO2 := Aside0.mk (Kd.R_below (Kd.R_alloc HO.out _) HB2.out); obtain ⟨ce, hcl, hM, hcc, hfr⟩ := Kd.R_elem HO2.out z31 (i : Int) (by omega) hiz; obtain rfl := k31_openM hM; have hi0 : w'.cell? ⟨gr, (i : Int).toNat * 3, none⟩ = some (.int .i64 (L.getD (i : Int).toNat z31).f0) := hcc 0 _ rfl; have hf0 : w'.frozen? ⟨gr, (i : Int).toNat * 3, none⟩ = false := hfr 0; have hi1 : w'.cell? ⟨gr, (i : Int).toNat * 3 + 1, none⟩ = some (.int .i64 (L.getD (i : Int).toNat z31).f1) := hcc 1 _ rfl; have hf1 : w'.frozen? ⟨gr, (i : Int).toNat * 3 + 1, none⟩ = false := hfr 1; have hi2 : w'.cell? ⟨gr, (i : Int).toNat * 3 + 2, none⟩ = some (.int .i64 (L.getD (i : Int).toNat z31).f2) := hcc 2 _ rfl; have hf2 : w'.frozen? ⟨gr, (i : Int).toNat * 3 + 2, none⟩ = false := hfr 2; clear hM; simp only [Int.toNat_natCast] at hi0 hf0 hi1 hf1 hi2 hf2; have HCC := Aside0.mk hcc; have HCL := Aside0.mk hcl; clear hcc hcl hfr; have hv0 : w'.cell? ⟨wr.heap.size, 0, none⟩ = some (.int .i64 y.f0) := (HB2.out.cell (p := ⟨wr.heap.size, 0, none⟩) (by simp)).trans (blk_cell (heap_alloc_new wr _) 0); have hv1 : w'.cell? ⟨wr.heap.size, 1, none⟩ = some (.int .i64 y.f1) := (HB2.out.cell (p := ⟨wr.heap.size, 1, none⟩) (by simp)).trans (blk_cell (heap_alloc_new wr _) 1); have hv2 : w'.cell? ⟨wr.heap.size, 2, none⟩ = some (.int .i64 y.f2) := (HB2.out.cell (p := ⟨wr.heap.size, 2, none⟩) (by simp)).trans (blk_cell (heap_alloc_new wr _) 2))
          have HP3 := Kd.R_seg HO2.out (i : Int) (by omega) hiz (seg := [.int .i64 y.f0, .int .i64 y.f1, .int .i64 y.f2]) (j := 0) HCL.out HCC.out (show 3 ≤ 3 from by decide) (x' := y) (k31_mkM _ _ _ y) (fun _ hk => hk)
          have hz : wr.heap.size ≤ w'.heap.size := by have := HB2.out.size; simp at this; omega
          have HB3 := below_then (HB.out.alloc HZ.out _) (by simp; exact Nat.le_succ_of_le HZ.out) HB2.out
          go_roundg (l0.length - (j + 1))
          case measure => omega
          case rel =>
            refine ⟨i + 1, j + 1, L.set i y, by go_num, by go_num, by omega, by omega, by omega, ⟨?_⟩, ⟨?_⟩, ⟨?_⟩, ⟨?_⟩⟩
            · exact Nat.le_trans (Nat.le_trans HZ.out hz) (by simp [World.setCell])
            · exact below_setCells gr hgb [.int .i64 y.f0, .int .i64 y.f1, .int .i64 y.f2] (i * 3) HB3
            · have := HP3.1
              simp only [Int.toNat_natCast] at this
              exact this
            · have := SV.out.keep z31 hlt (by rw [← E.out]; exact hq)
              rw [← E.out] at this
              exact this
      · have hltz : ¬ (j : Int) < (l0.length : Int) := by omega
        obtain rfl : j = l0.length := by omega
        have hin : i < l0.length := by omega
        have hle : (i : Int) ≤ (l0.length : Int) := by omega
        have hclr := fun ty => run_clear (P := Try.prog) wr 25 31 ty (.agg #[.int .i64 0, .int .i64 0, .int .i64 0]) Try.underlying25 (fun _ => by kernel_rfl) (by simp [Value.cells, Value.oneCell']) gr (i * 3) (l0.length - i) (c0 - i) (by omega) (fun q hq => by
          have := R_cells HO.out (i * 3 + q) (by
            have h1 : q < 3 * (l0.length - i) := hq
            have h2 : (k31).sz = 3 := rfl
            rw [h2]; omega)
          exact this)
        have hil : L.length = l0.length := SV.out.len
        have hT := Aside0.mk (R_setCells_behind (Builtin.zeroCells (Value.agg #[.int .i64 0, .int .i64 0, .int .i64 0]).cells (l0.length - i)).toList (i * 3) (Kd.R_take HO.out (show i ≤ L.length by omega)) (Nat.le_refl _))
        have hD := Aside0.mk SV.out.done
        have HB3 := Aside0.mk (below_setCells gr hgb (Builtin.zeroCells (Value.agg #[.int .i64 0, .int .i64 0, .int .i64 0]).cells (l0.length - i)).toList (i * 3) HB.out)
        clear hil HP
        go_wp2
        go_ret
        refine ⟨_, rfl, ?_, HB3.out⟩
        have h9 := hT.out
        rw [hD.out] at h9
        exact h9
end Go.Proofs.Ytolfcknnjggchaa.PM
