/- The plain law of CountLostChomps: the printed function of the program counts the lost chomps as the reference's does. Conditions: the law's own. -/
import Derived.Test.YtnmibkkchgagbaaDoorAx19
import Derived.Test.YtnmibkkchgagbaaDoorPHeap2
namespace Go.Proofs.YtnmibkkchgagbaaDoor.Pure
open Go.RowKit Go.Proofs.YtnmibkkchgagbaaDoor.All Go.Proofs.YtnmibkkchgagbaaDoorW.PrintWords Go.Proofs.YtnmibkkchgagbaaDoorW.PrintLast Go.Proofs.YtnmibkkchgagbaaDoor.PEv Go.Proofs.YtnmibkkchgagbaaDoor.PChomp Go.Proofs.YtnmibkkchgagbaaDoor.PHeap2 Go.Proofs.YtnmibkkchgagbaaDoor.PAll Go.Proofs.YtnmibkkchgagbaaDoor.PHeaps Go.Proofs.YtnmibkkchgagbaaDoor.PFate
set_option linter.unusedVariables false
set_option linter.unusedSimpArgs false

def cnt (L : List (List Int)) : Nat := (L.filter fun x => !won x).length
theorem count_go (L : List (List Int)) (T : List Int) (hL : L.length ≤ 117649) (hin : ∀ s ∈ L, ok6 s ∧ (0 ≤ kv s ∧ kv s < (T.length : Int)) ∧ rd T (kv s) = (fate s).1 + 1) : ∀ (d i n : Nat), i ≤ L.length → L.length - i = d → n ≤ i →
    Ev (fun k => spec_CountLostChomps.l0 k (n : Int) T L (L.length : Int) (i : Int)) (((n + cnt (L.drop i) : Nat) : Int), true) := by
  intro d
  induction d with
  | zero =>
    intro i n h1 h2 h3
    have e : cnt (L.drop i) = 0 := by rw [List.drop_of_length_le (by omega)]; rfl
    rw [e, Nat.add_zero]
    refine Ev.step (f := fun _ => some ((n : Int), true)) (fun k => ?_) (Ev.now _)
    simp only [spec_CountLostChomps.l0]
    rw [if_neg (by omega)]
  | succ d ih =>
    intro i n h1 h2 h3
    have hi : i < L.length := by omega
    have er : rd_L2 L (i : Int) = L[i] := by simp [rd_L2, List.getD_eq_getElem?_getD, hi]
    have hm : L[i] ∈ L := List.getElem_mem hi
    obtain ⟨hok, hk, ht⟩ := hin _ hm
    have hf := fate_in hok
    have HWI : Aside0 (wrap64 ((i : Int) + 1) = ((i + 1 : Nat) : Int)) := ⟨by rw [wrap_in (x := (i : Int) + 1) (by omega) (by omega)]; omega⟩
    have HWN : Aside0 (wrap64 ((n : Int) + 1) = ((n + 1 : Nat) : Int)) := ⟨by rw [wrap_in (x := (n : Int) + 1) (by omega) (by omega)]; omega⟩
    have hc : cnt (L.drop i) = (if won L[i] = true then 0 else 1) + cnt (L.drop (i + 1)) := by
      unfold cnt
      rw [List.drop_eq_getElem_cons hi]
      cases hwon : won L[i]
      · rw [List.filter_cons_of_pos (by simp [hwon]), List.length_cons, if_neg (by simp), Nat.add_comm]
      · rw [List.filter_cons_of_neg (by simp [hwon]), if_pos rfl, Nat.zero_add]
    have ER := Aside0.mk er
    have HT := Aside0.mk ht
    clear er ht
    refine Ev.step (f := fun k => (spec_cmKey.f k L[i]).bind fun t207 => (if 0 ≤ t207 then (if t207 < (T.length : Int) then (if (rd T t207) = 1 then (spec_CountLostChomps.l0 k (((n + 1 : Nat) : Int)) T L (L.length : Int) ((i + 1 : Nat) : Int)) else (spec_CountLostChomps.l0 k (n : Int) T L (L.length : Int) ((i + 1 : Nat) : Int))) else (none)) else (none))) (fun k => ?_) ?_
    · simp only [spec_CountLostChomps.l0]
      rw [if_pos (by omega), if_pos (by omega), if_pos (by omega), ER.out, HWI.out, HWN.out]
    · refine Ev.bind (key_ev hok) (pos hk.1 (pos hk.2 ?_))
      rw [HT.out, hc]
      by_cases hz : (fate L[i]).1 = 0
      · refine pos (by omega) ?_
        have e : won L[i] = false := decide_eq_false (by omega)
        rw [e, if_neg (by simp), ← Nat.add_assoc]
        exact ih (i + 1) (n + 1) (by omega) (by omega) (by omega)
      · refine neg (by omega) ?_
        have e : won L[i] = true := decide_eq_true (by omega)
        rw [e, if_pos rfl, Nat.zero_add]
        exact ih (i + 1) n (by omega) (by omega) (by omega)
theorem sides_eq (a b : Int) : spec_cmSides.f a b = some (inR a && inR b) := by
  unfold spec_cmSides.f
  rw [l1In_eq]
  simp only [Option.bind_some]
  cases h : inR a with
  | true =>
    rw [show decide (1 ≤ a ∧ a ≤ 6) = true from h, if_pos rfl, l1In_eq]
    rfl
  | false =>
    rw [show decide (1 ≤ a ∧ a ≤ 6) = false from h, if_neg (by simp)]
    rfl
def cres (a b : Int) : Int × Bool := if inR a = true ∧ inR b = true then ((cnt (allC a.toNat b.toNat) : Int), true) else (0, false)
theorem spec_cres (a b : Int) : Ev (fun k => spec_CountLostChomps.f k a b) (cres a b) := by
  unfold cres
  simp only [spec_CountLostChomps.f]
  rw [sides_eq]
  by_cases h : inR a = true ∧ inR b = true
  · rw [if_pos h]
    have h1 := of_decide_eq_true h.1
    have h2 := of_decide_eq_true h.2
    refine bound (pos (by rw [h.1, h.2]; rfl) ?_)
    have e1 := heaps_f (w := a.toNat) (h := b.toNat) (by omega) (by omega)
    have e2 := all_f (w := a.toNat) (h := b.toNat) (by omega) (by omega)
    rw [show ((a.toNat : Nat) : Int) = a by omega, show ((b.toNat : Nat) : Int) = b by omega] at e1 e2
    rw [e1]
    refine bound ?_
    rw [e2]
    refine bound ?_
    have hw6 : a.toNat ≤ 6 := by omega
    have hh6 : b.toNat ≤ 6 := by omega
    have := count_go (allC a.toNat b.toNat) (tb (allC a.toNat b.toNat)) (all_len hw6 hh6) (fun s hs => ⟨all_ok6 hw6 hh6 hs, kv_lt hw6 hh6 hs, tb_rd hw6 hh6 hs⟩) _ 0 0 (Nat.zero_le _) rfl (Nat.le_refl _)
    rw [Nat.zero_add, List.drop_zero] at this
    exact this
  · rw [if_neg h]
    refine bound (neg (fun e => h (by simpa using e)) (Ev.now _))
theorem impl_cres (a b : Int) : impl_CountLostChomps.f a b = some (cres a b) := rfl
theorem FnExactCountLostChomps : laws_FnExactCountLostChomps.Pure := by
  intro a0 a1 _ _
  apply Ev.rounds
  simp only [laws_FnExactCountLostChomps.f]
  refine Ev.bind (spec_cres a0 a1) ?_
  rw [impl_cres]
  exact bound (pos rfl (neg (by simp) (Ev.now _)))
end Go.Proofs.YtnmibkkchgagbaaDoor.Pure
