/- slices.DeleteFunc over a list of whole numbers of the call's own, whatever the function value that is handed in: its contract. Conditions: the function value's own contract. -/
import Derived.Test.YtnmibkkchgagbaaDoorGWithin
import Derived.Test.YtnmibkkchgagbaaDoorGLib
import Derived.Shelf.Abstract
namespace Go.Proofs.YtnmibkkchgagbaaDoor.All
open Go.RowKit Go.Proofs.YtnmibkkchgagbaaDoorW.PrintWords Go.Proofs.YtnmibkkchgagbaaDoorW.PrintLast Go.Proofs.YtnmibkkchgagbaaDoorW.PrintMore Go.Shelf Go.Proofs.YtnmibkkchgagbaaDoor.G
set_option linter.unusedVariables false
set_option linter.unusedSimpArgs false

set_option maxHeartbeats 4000000 in
theorem delete_int (g : Nat) (lb : Array Value) (eg : ∀ args w, (callFunc g args).run Tryd.prog w = .ok (.enter g args) w) (p : Int → Bool) (base : Nat) (w0 : World) (v0 : Value) (l0 : List Int) (w : World)
    (hw : Below base w0 w) (hbase : base ≤ w.heap.size) (hR : Kd.R (Kd.int .i64) 3 w base (fun _ => True) v0 l0)
    (hp : ∀ (W : World) (x : Int), Below base w0 W → base ≤ W.heap.size → Calls Tryd.prog g (#[.int .i64 x] ++ lb) W fun e w' => e = .returned (.bool (p x)) ∧ Below W.heap.size W w') :
    Calls Tryd.prog 75 #[v0, .func (.func g) #[] lb] w fun e w' => ∃ v' : Value, e = .returned v' ∧ Kd.R (Kd.int .i64) 3 w' base (fun _ => True) v' (l0.filter fun x => !p x) ∧ Below base w0 w' := by
  obtain ⟨A0, c0, rfl, hc0, hC⟩ := Kd.R_reads hR
  have hl : l0.length ≤ 9223372036854775807 := hC.2.1
  have hIF := index_int g lb eg p A0 c0 l0 w hC (fun W x hW => hp W x (below_then hw hbase hW) (Nat.le_trans hbase hW.size))
  have HR := Aside0.mk hR
  have HW := Aside0.mk hw
  have HP := Aside0.mk hp
  clear hR hw hp hC
  rcases idxOf_spec p (0 : Int) l0 0 with ⟨e1, hn⟩ | ⟨k0, hk0, e1, ht, hn⟩
  · rw [e1] at hIF
    rw [filter_none 0 hn]
    clear hn e1
    go_enter Tryd.func75, Tryd.ntmps75
    go_wp2_with (go_at_call 77; refine hIF.mono ?_; rintro e w' ⟨rfl, hb⟩)
    go_ret
    exact ⟨_, rfl, Kd.R_below HR.out hb, below_then HW.out hbase hb⟩
  · rw [e1, Nat.zero_add] at hIF
    have hne1 : ((k0 : Int) == -1) = false := beq_eq_false_iff_ne.2 (by omega)
    have SV : Aside0 (Sieve p l0 k0 (k0 + 1) l0) := ⟨Sieve.start 0 hk0 ht hn⟩
    obtain ⟨gr, cap, e2, hgb, hglt, _⟩ := Kd.R_form HR.out (by omega)
    injection e2 with e3 _ e4
    subst e3; subst e4
    clear hn e1 ht
    go_enter Tryd.func75, Tryd.ntmps75
    go_wp2_with (go_at_call 77; refine hIF.mono ?_; rintro e w' ⟨rfl, hb⟩; have HB1 := Aside0.mk hb; clear hb)
    clear hIF
    go_loopg [5, 6, 7] l0.length (fun gg s5 s6 _ wr => ∃ (i j : Nat) (L : List Int), s5 = .int .i64 i ∧ s6 = .int .i64 j ∧ j ≤ l0.length ∧ i < j ∧ l0.length - j ≤ gg ∧ Aside0 (base ≤ wr.heap.size) ∧ Aside0 (Below base w0 wr) ∧ Aside0 (Kd.R (Kd.int .i64) 3 wr base (fun _ => True) (.slice (some ⟨gr, 0, none⟩) l0.length c0) L) ∧ Aside0 (Sieve p l0 i j L))
    case atStart => exact ⟨k0, k0 + 1, l0, rfl, by go_num, by omega, by omega, by omega, ⟨Nat.le_trans hbase HB1.out.size⟩, ⟨below_then HW.out hbase HB1.out⟩, ⟨Kd.R_below HR.out HB1.out⟩, SV⟩
    case round =>
      clear SV HR
      obtain ⟨i, j, L, rfl, rfl, hj, hij, hgg, HZ, HB, HO, SV⟩ := hrel
      by_cases hlt : j < l0.length
      · have hltz : (j : Int) < (l0.length : Int) := by omega
        have hiz : (i : Int) < (l0.length : Int) := by omega
        have hx0 := (Kd.R_celln (0 : Int) HO.out (j : Int) (by omega) hltz).1
        simp only [Int.toNat_natCast] at hx0
        have hrd : rdOf (0 : Int) L (j : Int) = L.getD j 0 := by simp [rdOf]
        rw [hrd] at hx0
        have hcall := fun W hW hZ => HP.out W (L.getD j 0) hW hZ
        have E : Aside0 (L.getD j 0 = l0.getD j 0) := ⟨SV.out.at 0 hlt⟩
        generalize hy : L.getD j 0 = y at hx0 hcall E
        have EY := Aside0.mk hy
        clear hy hrd
        cases hq : p y with
        | true =>
          simp only [hq] at hcall
          go_wp2_with (go_at_fn g; refine (hcall _ HB.out HZ.out).mono ?_; rintro e w' ⟨rfl, hb'⟩; have HB2 := Aside0.mk hb'; clear hb')
          go_roundg (l0.length - (j + 1))
          case measure => omega
          case rel =>
            have hz : wr.heap.size ≤ w'.heap.size := HB2.out.size
            exact ⟨i, j + 1, L, rfl, by go_num, by omega, by omega, by omega, ⟨Nat.le_trans HZ.out hz⟩, ⟨below_then HB.out HZ.out HB2.out⟩, ⟨Kd.R_below HO.out HB2.out⟩, ⟨SV.out.skip 0 hlt (by rw [← E.out]; exact hq)⟩⟩
        | false =>
          simp only [hq] at hcall
          go_wp2_with (go_at_fn g; refine (hcall _ HB.out HZ.out).mono ?_; rintro e w' ⟨rfl, hb'⟩; have HB2 := Aside0.mk hb'; clear hb'; have HO2 := Aside0.mk (Kd.R_below HO.out HB2.out); obtain ⟨hi0, hf0⟩ := Kd.R_celln (0 : Int) HO2.out (i : Int) (by omega) hiz; simp only [Int.toNat_natCast] at hi0 hf0)
          have HP3 := Kd.R_putg HO2.out (i : Int) y
          have hz : wr.heap.size ≤ w'.heap.size := HB2.out.size
          have HB3 := below_then HB.out HZ.out HB2.out
          go_roundg (l0.length - (j + 1))
          case measure => omega
          case rel =>
            refine ⟨i + 1, j + 1, L.set i y, by go_num, by go_num, by omega, by omega, by omega, ⟨?_⟩, ⟨?_⟩, ⟨?_⟩, ⟨?_⟩⟩
            · exact Nat.le_trans (Nat.le_trans HZ.out hz) (by simp [World.setCell])
            · exact HB3.setCell (p := ⟨gr, i, none⟩) hgb _
            · have := HP3.1
              simp only [Int.toNat_natCast] at this
              exact this
            · have := SV.out.keep 0 hlt (by rw [← E.out]; exact hq)
              rw [← E.out] at this
              exact this
      · have hltz : ¬ (j : Int) < (l0.length : Int) := by omega
        obtain rfl : j = l0.length := by omega
        have hin : i < l0.length := by omega
        have hle : (i : Int) ≤ (l0.length : Int) := by omega
        have hclr := fun ty => run_clear (P := Tryd.prog) wr 22 3 ty (.int .i64 0) Tryd.underlying22 (fun _ => by kernel_rfl) (by simp [Value.cells, Value.oneCell']) gr i (l0.length - i) (c0 - i) (by omega) (fun q hq => by
          have := R_cells HO.out (i + q) (by
            have h1 : q < 1 * (l0.length - i) := hq
            have h2 : (Kd.int .i64).sz = 1 := rfl
            rw [h2]; omega)
          exact this)
        have hil : L.length = l0.length := SV.out.len
        have hT := Aside0.mk (R_setCells_behind (Builtin.zeroCells (Value.int .i64 0).cells (l0.length - i)).toList i (Kd.R_take HO.out (show i ≤ L.length by omega)) (by show i * 1 ≤ i; omega))
        have hD := Aside0.mk SV.out.done
        have HB3 := Aside0.mk (below_setCells gr hgb (Builtin.zeroCells (Value.int .i64 0).cells (l0.length - i)).toList i HB.out)
        clear hil HP
        go_wp2
        go_ret
        refine ⟨_, rfl, ?_, HB3.out⟩
        have h9 := hT.out
        rw [hD.out] at h9
        exact h9
end Go.Proofs.YtnmibkkchgagbaaDoor.All
