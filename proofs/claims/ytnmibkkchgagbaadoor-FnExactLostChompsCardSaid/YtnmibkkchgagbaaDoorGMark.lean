/- laws.markIntSS, that numbers the cells of rows of a list of lists through: its contract, for a list of the call's own whose rows lie apart. Conditions: none but that. -/
import Derived.Test.YtnmibkkchgagbaaDoorAx0
import Derived.Test.YtnmibkkchgagbaaDoorAx3
import Derived.Shelf.Abstract
namespace Go.Proofs.YtnmibkkchgagbaaDoor.All
open Go.RowKit Go.Proofs.YtnmibkkchgagbaaDoorW.PrintWords Go.Proofs.YtnmibkkchgagbaaDoorW.PrintLast Go.Proofs.YtnmibkkchgagbaaDoorW.PrintMore Go.Shelf
set_option linter.unusedVariables false
set_option linter.unusedSimpArgs false

def laws_markIntSS.l0 : Nat → List (List Int) → Int → Int → Option (Int × List (List Int))
  | 0, _, _, _ => none
  | k + 1, x0, x1, x5 => if x5 < (x0.length : Int) then (if 0 ≤ x5 then ((laws_markIntS.f k (x0.getD x5.toNat []) x1).bind fun t => laws_markIntSS.l0 k (x0.set x5.toNat t.2) t.1 (wrap64 (x5 + 1))) else none) else some (x1, x0)
def laws_markIntSS.f (k : Nat) (l0 : List (List Int)) (a1 : Int) : Option (Int × List (List Int)) := laws_markIntSS.l0 k l0 a1 0

set_option maxHeartbeats 2000000 in
theorem laws_markIntSS.calls (k : Nat) (P0_ : Nat → Prop) (u9000_ : Value) (l0 : List (List Int)) (a1 : Int) (r1 : Int) (r2 : List (List Int)) (w0 w : World) (hB : Below w0.heap.size w0 w) (ho0 : Kd.S (Kd.slice 3 (Kd.int .i64)) 22 w w0.heap.size P0_ u9000_ l0) (h : laws_markIntSS.f k l0 a1 = some (r1, r2)) :
    Calls Tryd.prog 28 #[u9000_, .int .i64 a1] w fun e w' => e = .returned (.int .i64 r1) ∧ Kd.S (Kd.slice 3 (Kd.int .i64)) 22 w' w0.heap.size (fun k_ => (P0_ k_ ∨ w.heap.size ≤ k_)) u9000_ r2 ∧ Below w0.heap.size w0 w' ∧ Kept w w' (fun k_ => P0_ k_) := by
  obtain ⟨A0, c0, rfl, hc0, hC⟩ := Kd.S_reads ho0
  have hl : l0.length ≤ 9223372036854775807 := hC.2.1
  have HS := Aside0.mk ho0
  have HB := Aside0.mk hB
  have H : laws_markIntSS.l0 k l0 a1 0 = some (r1, r2) := h
  clear hC ho0 hB h
  go_enter Tryd.func28, Tryd.ntmps28
  go_wp2
  go_loopg [1, 5] k (fun gg s1 s5 wr => ∃ (n i : Nat) (L : List (List Int)) (x : Int), n ≤ gg ∧ L.length = l0.length ∧ s1 = .int .i64 x ∧ s5 = .int .i64 i ∧ i ≤ l0.length ∧ Aside0 (laws_markIntSS.l0 n L x i = some (r1, r2)) ∧ Aside0 (Kd.S (Kd.slice 3 (Kd.int .i64)) 22 wr w0.heap.size (fun k_ => (P0_ k_ ∨ w.heap.size ≤ k_)) (.slice A0 l0.length c0) L) ∧ Aside0 (Below w0.heap.size w0 wr) ∧ Aside0 (Kept w wr (fun k_ => P0_ k_)))
  case atStart => exact ⟨k, 0, l0, a1, Nat.le_refl _, rfl, rfl, rfl, Nat.zero_le _, ⟨H⟩, ⟨Kd.S_mono HS.out (fun _ hk => .inl hk)⟩, HB, ⟨Kept.refl _ _⟩⟩
  case round =>
    clear HS HB H
    obtain ⟨n, i, L, x, hn, hLl, rfl, rfl, hi, HE, HS, HB, HK⟩ := hrel
    cases n with
    | zero => exact absurd HE.out (by simp [laws_markIntSS.l0])
    | succ n =>
      have hE := HE.out
      clear HE
      rw [laws_markIntSS.l0] at hE
      by_cases hlt : i < l0.length
      · have hltz : (i : Int) < (l0.length : Int) := by omega
        rw [if_pos (by rw [hLl]; exact hltz), if_pos (by omega)] at hE
        obtain ⟨t, ht1, ht2⟩ := Option.bind_eq_some_iff.1 hE
        clear hE
        obtain ⟨t1, t2⟩ := t
        simp only [Int.toNat_natCast] at ht1 ht2
        have HT := Aside0.mk ht2
        obtain ⟨gr, cap, e2, hgb, hglt, _⟩ := Kd.S_form HS.out (by omega)
        rw [hLl] at e2
        injection e2 with e3 _ e4
        subst e3; subst e4
        obtain ⟨oki, ce, hcl, hM, hcc, hfr, hoki, hH⟩ := Kd.S_elem HS.out ([] : List Int) (i : Int) (by omega) hltz
        obtain ⟨vi, rfl, hRi⟩ := hM
        have hx0 : wr.cell? ⟨gr, (i : Int).toNat * 1, none⟩ = some vi := hcc 0 _ rfl
        simp only [Int.toNat_natCast, Nat.mul_one] at hx0 hRi
        obtain ⟨Ai, ci, rfl, hci, _⟩ := Kd.R_reads hRi
        have HH := Aside0.mk hH
        have HO := Aside0.mk hoki
        have HI := Aside0.mk hRi.1
        have hmk := laws_markIntS.calls n oki _ (L.getD i []) x t1 t2 w0 wr HB.out hRi ht1
        have hwi : wrap64 ((i : Int) + 1) = ((i + 1 : Nat) : Int) := by unfold wrap64; omega
        clear hcl hcc hfr hoki hH hRi ht1 ht2
        generalize hy : L.getD i [] = y at hx0 hmk
        have HY := Aside0.mk hy
        clear hy hci
        go_wp2_with (go_at_call 32; refine hmk.mono ?_; rintro e w2 ⟨rfl, hR2, hB2, hK2⟩; have HR2 := Aside0.mk hR2; have HB2 := Aside0.mk hB2; have HK2 := Aside0.mk hK2; clear hR2 hB2 hK2)
        go_roundg n
        case measure => omega
        case rel =>
          refine ⟨n, i + 1, L.set i t2, t1, by omega, by simpa using hLl, rfl, by go_num, by omega, ⟨?_⟩, ⟨?_⟩, HB2, ⟨?_⟩⟩
          · rw [← hwi]; exact HT.out
          · have h1 := Kd.H_kept HH.out HK2.out (fun k _ hn hk => hn hk)
            have HR3 := HR2.out
            rw [← HY.out] at HR3
            have h3 := Kd.H_back h1 (x' := t2) (okp := oki) ⟨_, rfl, Kd.R_reok rfl HR3 HI.out⟩ (fun _ hk => hk)
            simpa only [Int.toNat_natCast] using h3
          · exact HK.out.then_ HK2.out (fun k hk => (HO.out k hk).1)
      · have hltz : ¬ (i : Int) < (l0.length : Int) := by omega
        rw [if_neg (by rw [hLl]; exact hltz)] at hE
        simp only [Option.some.injEq, Prod.mk.injEq] at hE
        obtain ⟨rfl, rfl⟩ := hE
        go_wp2
        go_ret
        exact ⟨rfl, HS.out, HB.out, HK.out⟩
end Go.Proofs.YtnmibkkchgagbaaDoor.All
