/- The heap of a chomp as the printed functions tell it. Conditions: lists of at most four million numbers. -/
import Derived.Test.YtnmibkkchgagbaaDoorPFateAll
import Derived.Test.YtnmibkkchgagbaaDoorGFate
import Derived.Test.YtnmibkkchgagbaaDoorPInt
import Derived.Test.YtnmibkkchgagbaaDoorAx8
namespace Go.Proofs.YtnmibkkchgagbaaDoor.PHeap2
open Go.RowKit Go.Proofs.YtnmibkkchgagbaaDoor.All Go.Proofs.YtnmibkkchgagbaaDoorW.PrintWords Go.Proofs.YtnmibkkchgagbaaDoorW.PrintLast Go.Proofs.YtnmibkkchgagbaaDoor.PEv Go.Proofs.YtnmibkkchgagbaaDoor.PChomp Go.Proofs.YtnmibkkchgagbaaDoor.PFate Go.Proofs.YtnmibkkchgagbaaDoor.PAll Go.Proofs.YtnmibkkchgagbaaDoor.PHeaps
set_option linter.unusedVariables false
set_option linter.unusedSimpArgs false

theorem dsc_at (l : List Int) : ∀ (d i : Nat), dsc l d i = true → ∀ j : Nat, i ≤ j → j < i + d → rd l (j : Int) ≤ rd l ((j : Int) - 1)
  | 0, i, _, j, h1, h2 => by omega
  | d + 1, i, h, j, h1, h2 => by
    rw [dsc, Bool.and_eq_true] at h
    by_cases e : j = i
    · subst e
      exact of_decide_eq_true h.1
    · exact dsc_at l d (i + 1) h.2 j (by omega) (by omega)
theorem chn_of : ∀ (l : List Int) (w : Int), (∀ j, j + 1 < l.length → l.getD (j + 1) 0 ≤ l.getD j 0) → (∀ n ∈ l, 1 ≤ n) → (l ≠ [] → l.getD 0 0 ≤ w) → chn w l
  | [], w, _, _, _ => trivial
  | x :: t, w, h1, h2, h3 => by
    refine ⟨h2 x (by simp), by simpa using h3 (by simp), chn_of t x (fun j hj => ?_) (fun n hn => h2 n (by simp [hn])) (fun ht => ?_)⟩
    · simpa using h1 (j + 1) (by simpa using hj)
    · cases t with
      | nil => exact absurd rfl ht
      | cons y r => simpa using h1 0 (by simp)
theorem isC_all {l : List Int} (h : isC l = true) : l ∈ allC (rd l 0).toNat l.length ∧ 1 ≤ rd l 0 ∧ rd l 0 ≤ 6 := by
  have hok := isC_ok h
  have h0 := rd_in hok.1 (i := 0) (by omega) (by omega)
  unfold isC at h
  rw [Bool.and_eq_true] at h
  have hd := dsc_at l _ _ h.1
  refine ⟨mem_all.2 ⟨fun e => by rw [e] at hok; simp at hok, Nat.le_refl _, chn_of l _ (fun j hj => ?_) (fun n hn => (hok.1.2 n hn).1) (fun _ => ?_)⟩, h0⟩
  · have := hd (j + 1) (by omega) (by omega)
    unfold rd at this
    rw [Int.toNat_natCast, show (((j + 1 : Nat) : Int) - 1).toNat = j by omega] at this
    exact this
  · unfold rd at h0 ⊢
    simp only [Int.toNat_zero] at h0 ⊢
    omega
/-- What the table of the printed spec.cmHeaps tells. -/
theorem heaps_f {w h : Nat} (hw : w ≤ 6) (hh : h ≤ 6) : spec_cmHeaps.f (w : Int) (h : Int) = some (tb (allC w h)) := by
  unfold spec_cmHeaps.f
  rw [if_pos (by omega), Int.toNat_natCast, Int.toNat_natCast]
theorem all_f {w h : Nat} (hw : w ≤ 6) (hh : h ≤ 6) : spec_cmAll.f (w : Int) (h : Int) = some (allC w h) := by
  unfold spec_cmAll.f
  rw [if_pos (by omega), Int.toNat_natCast, Int.toNat_natCast]
theorem tb_rd {w h : Nat} (hw : w ≤ 6) (hh : h ≤ 6) {s : List Int} (hm : s ∈ allC w h) : rd (tb (allC w h)) (kv s) = (fate s).1 + 1 := by
  unfold rd
  exact tb_at (fun r hr => all_ok6 hw hh hr) (all_sorted hw hh) hm
theorem kv_lt {w h : Nat} (hw : w ≤ 6) (hh : h ≤ 6) {s : List Int} (hm : s ∈ allC w h) : 0 ≤ kv s ∧ kv s < ((tb (allC w h)).length : Int) := by
  have := kv_in (all_ok6 hw hh hm)
  rw [tb_len]
  omega
theorem cmHeap_ev {l : List Int} (h : isC l = true) : Ev (fun k => spec_cmHeap.f k l) (fate l).1 := by
  have hok := isC_ok h
  obtain ⟨hm, h1, h2⟩ := isC_all h
  have hl := hok.1.1
  have hf := fate_in hok.1
  have hk := kv_lt (by omega) hl hm
  have ht := tb_rd (by omega) hl hm
  have hh := heaps_f (w := (rd l 0).toNat) (h := l.length) (by omega) hl
  rw [show (((rd l 0).toNat : Nat) : Int) = rd l 0 by omega] at hh
  have hw : wrap64 ((fate l).1 + 1 - 1) = (fate l).1 := by rw [wrap_in (by omega) (by omega)]; omega
  have HW := Aside0.mk hw
  simp only [spec_cmHeap.f]
  refine pos (by omega) ?_
  rw [hh]
  refine bound (Ev.bind (key_ev hok.1) (pos hk.1 (pos hk.2 ?_)))
  rw [ht, HW.out]
  exact Ev.now _
/-- All laws over one chomp end alike. -/
def hres (l : List Int) : Int × Bool := if isC l = true then ((fate l).1, true) else (0, false)
theorem impl_h (l : List Int) (hl : l.length ≤ 4000000) : impl_HeapOfChomp.f l = some (hres l) := by
  unfold impl_HeapOfChomp.f
  rw [if_pos hl]
  rfl
end Go.Proofs.YtnmibkkchgagbaaDoor.PHeap2
