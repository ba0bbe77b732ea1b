/- The law FnExactPlayChomp answers true: its helpers answer alike, so the walk through it ends in true. Conditions: none beyond the law's own. -/
import Derived.Test.YtnmibkkchgagbaaPChomp
import Derived.Test.YtnmibkkchgagbaaPRows
import Derived.Test.YtnmibkkchgagbaaPCopy
import Derived.Test.YtnmibkkchgagbaaGLawPlay
namespace Go.Proofs.Ytnmibkkchgagbaa.PurePlay
open Go.RowKit Go.Proofs.Ytnmibkkchgagbaa.All Go.Proofs.YtnmibkkchgagbaaW.PrintWords Go.Proofs.YtnmibkkchgagbaaW.PrintLast Go.Proofs.Ytnmibkkchgagbaa.PEv Go.Proofs.Ytnmibkkchgagbaa.PChomp
set_option linter.unusedSimpArgs false
set_option linter.unusedVariables false

def play : List Int → List (List Int) → List Int × Bool
  | l, [] => (l, true)
  | l, m :: r => if m.length = 2 ∧ canB l (rd m 0) (rd m 1) = true then play (bit l (rd m 0) (rd m 1)) r else ([], false)
theorem play_small : ∀ (M : List (List Int)) (l : List Int), ok6 l → (play l M).1.length ≤ 6
  | [], l, h => h.1
  | m :: r, l, h => by
    rw [play]
    split
    · next hc =>
      have hcb := hc.2
      unfold canB at hcb
      rw [decide_eq_true_eq] at hcb
      exact play_small r _ (bit_ok h hcb.2.1.1)
    · simp
theorem rd_row {M : List (List Int)} {i : Nat} (h : i < M.length) : rd_L1 M (i : Int) = M[i] := by simp [rd_L1, List.getD_eq_getElem?_getD, h]
theorem spec_go (M : List (List Int)) (hM : M.length ≤ 36) : ∀ (d i : Nat) (l : List Int), i ≤ M.length → M.length - i = d → ok6 l → Ev (fun k => spec_PlayChomp.l0 k l M (M.length : Int) (i : Int)) (play l (M.drop i)) := by
  intro d
  induction d with
  | zero =>
    intro i l h1 h2 h3
    rw [List.drop_of_length_le (by omega), play]
    refine Ev.step (f := fun _ => some (l, true)) (fun k => ?_) (Ev.now _)
    simp only [spec_PlayChomp.l0]
    rw [if_neg (by omega)]
  | succ d ih =>
    intro i l h1 h2 h3
    have hi : i < M.length := by omega
    have er := rd_row hi
    have hw2 : wrap64 ((i : Int) + 1) = ((i + 1 : Nat) : Int) := by rw [wrap_in (x := (i : Int) + 1) (by omega) (by omega)]; omega
    have HW2 := Aside0.mk hw2
    clear hw2
    rw [List.drop_eq_getElem_cons hi, play]
    by_cases c1 : M[i].length = 2
    · cases c2 : canB l (rd M[i] 0) (rd M[i] 1) with
      | true =>
        rw [if_pos ⟨c1, rfl⟩]
        have hcb := c2
        unfold canB at hcb
        rw [decide_eq_true_eq] at hcb
        refine Ev.step (f := fun k => (spec_cmBite.f k l (rd M[i] 0) (rd M[i] 1)).bind fun t => spec_PlayChomp.l0 k t M (M.length : Int) ((i + 1 : Nat) : Int)) (fun k => ?_) (Ev.bind (spec_bite h3 hcb.2.1.1 hcb.1.1) (ih (i + 1) _ (by omega) (by omega) (bit_ok h3 hcb.2.1.1)))
        simp only [spec_PlayChomp.l0]
        rw [if_pos (by omega), if_pos (by omega), if_pos (by omega), er, if_pos (by omega), if_pos (by omega), if_pos (by omega), spec_can h3, c2, Option.bind_some, if_pos rfl, HW2.out]
      | false =>
        rw [if_neg (by simp)]
        refine Ev.step (f := fun _ => some ([], false)) (fun k => ?_) (Ev.now _)
        simp only [spec_PlayChomp.l0]
        rw [if_pos (by omega), if_pos (by omega), if_pos (by omega), er, if_pos (by omega), if_pos (by omega), if_pos (by omega), spec_can h3, c2, Option.bind_some, if_neg (by simp)]
    · rw [if_neg (fun h => c1 h.1)]
      refine Ev.step (f := fun _ => some ([], false)) (fun k => ?_) (Ev.now _)
      simp only [spec_PlayChomp.l0]
      rw [if_pos (by omega), if_pos (by omega), if_pos (by omega), er, if_neg (by omega)]
theorem impl_go (M : List (List Int)) (hM : M.length ≤ 36) : ∀ (d i : Nat) (l : List Int), i ≤ M.length → M.length - i = d → ok6 l → Ev (fun k => impl_PlayChomp.l0 k l M (M.length : Int) (i : Int)) (play l (M.drop i)) := by
  intro d
  induction d with
  | zero =>
    intro i l h1 h2 h3
    rw [List.drop_of_length_le (by omega), play]
    refine Ev.step (f := fun _ => some (l, true)) (fun k => ?_) (Ev.now _)
    simp only [impl_PlayChomp.l0]
    rw [if_neg (by omega)]
  | succ d ih =>
    intro i l h1 h2 h3
    have hi : i < M.length := by omega
    have er := rd_row hi
    have hw2 : wrap64 ((i : Int) + 1) = ((i + 1 : Nat) : Int) := by rw [wrap_in (x := (i : Int) + 1) (by omega) (by omega)]; omega
    have HW2 := Aside0.mk hw2
    clear hw2
    rw [List.drop_eq_getElem_cons hi, play]
    by_cases c1 : M[i].length = 2
    · cases c2 : canB l (rd M[i] 0) (rd M[i] 1) with
      | true =>
        rw [if_pos ⟨c1, rfl⟩]
        have hcb := c2
        unfold canB at hcb
        rw [decide_eq_true_eq] at hcb
        refine Ev.step (f := fun k => impl_PlayChomp.l0 k (bit l (rd M[i] 0) (rd M[i] 1)) M (M.length : Int) ((i + 1 : Nat) : Int)) (fun k => ?_) (ih (i + 1) _ (by omega) (by omega) (bit_ok h3 hcb.2.1.1))
        simp only [impl_PlayChomp.l0]
        rw [if_pos (by omega), if_pos (by omega), if_pos (by omega), er, if_pos (by omega), if_pos (by omega), if_pos (by omega), impl_can h3, c2, Option.bind_some, if_pos rfl, impl_bite h3 hcb.1.1, Option.bind_some, HW2.out]
      | false =>
        rw [if_neg (by simp)]
        refine Ev.step (f := fun _ => some ([], false)) (fun k => ?_) (Ev.now _)
        simp only [impl_PlayChomp.l0]
        rw [if_pos (by omega), if_pos (by omega), if_pos (by omega), er, if_pos (by omega), if_pos (by omega), if_pos (by omega), impl_can h3, c2, Option.bind_some, if_neg (by simp)]
    · rw [if_neg (fun h => c1 h.1)]
      refine Ev.step (f := fun _ => some ([], false)) (fun k => ?_) (Ev.now _)
      simp only [impl_PlayChomp.l0]
      rw [if_pos (by omega), if_pos (by omega), if_pos (by omega), er, if_neg (by omega)]
def res (l : List Int) (M : List (List Int)) : List Int × Bool := if isC l = true ∧ M.length ≤ 36 then play l M else ([], false)
theorem res_small (l : List Int) (M : List (List Int)) : (res l M).1.length ≤ 6 := by
  unfold res
  split
  · next h => exact play_small M l (isC_ok h.1).1
  · simp
theorem spec_r (l : List Int) (hl : l.length ≤ 4000000) (M : List (List Int)) : Ev (fun k => spec_PlayChomp.f k l M) (res l M) := by
  unfold res
  simp only [spec_PlayChomp.f]
  refine Ev.bind (spec_isC l hl) ?_
  cases h1 : isC l with
  | true =>
    have hok := (isC_ok h1).1
    refine pos rfl ?_
    by_cases h2 : M.length ≤ 36
    · rw [if_pos ⟨rfl, h2⟩]
      refine Ev.step (f := fun k => spec_PlayChomp.l0 k l M (M.length : Int) 0) (fun k => ?_) (spec_go M h2 M.length 0 l (Nat.zero_le _) rfl hok)
      simp only [spec_PlayChomp.j0, spec_l1Own.f]
      rw [decide_eq_false (by omega), if_neg (by simp)]
      simp only [Option.bind_some, List.length_nil, List.nil_append]
      rw [if_pos (by have := hok.1; omega)]
      rfl
    · rw [if_neg (fun h => h2 h.2)]
      refine Ev.step (f := fun _ => some ([], false)) (fun k => ?_) (Ev.now _)
      simp only [spec_PlayChomp.j0]
      rw [decide_eq_true (by omega), if_pos (by simp)]
  | false =>
    refine neg (by simp) ?_
    rw [if_neg (by simp)]
    refine Ev.step (f := fun _ => some ([], false)) (fun k => ?_) (Ev.now _)
    simp only [spec_PlayChomp.j0]
    rw [if_pos (by simp)]
theorem impl_r (l : List Int) (hl : l.length ≤ 4000000) (M : List (List Int)) : Ev (fun k => impl_PlayChomp.f k l M) (res l M) := by
  unfold res
  simp only [impl_PlayChomp.f]
  refine Ev.bind (impl_isC l hl) ?_
  cases h1 : isC l with
  | true =>
    have hok := (isC_ok h1).1
    refine pos rfl ?_
    by_cases h2 : M.length ≤ 36
    · rw [if_pos ⟨rfl, h2⟩]
      refine Ev.step (f := fun k => impl_PlayChomp.l0 k l M (M.length : Int) 0) (fun k => ?_) (impl_go M h2 M.length 0 l (Nat.zero_le _) rfl hok)
      simp only [impl_PlayChomp.j0, slices_Clone_int_int.f]
      rw [decide_eq_false (by omega), if_neg (by simp), if_pos (by have := hok.1; omega)]
      rfl
    · rw [if_neg (fun h => h2 h.2)]
      refine Ev.step (f := fun _ => some ([], false)) (fun k => ?_) (Ev.now _)
      simp only [impl_PlayChomp.j0]
      rw [decide_eq_true (by omega), if_pos (by simp)]
  | false =>
    refine neg (by simp) ?_
    rw [if_neg (by simp)]
    refine Ev.step (f := fun _ => some ([], false)) (fun k => ?_) (Ev.now _)
    simp only [impl_PlayChomp.j0]
    rw [if_pos (by simp)]
/-! how much there is -/
def szR (left : Int) : List (List Int) → Int
  | [] => left
  | r :: rs => if left - (r.length : Int) < 0 then -1 else szR (left - (r.length : Int)) rs
theorem szR_le : ∀ (M : List (List Int)) (left : Int), 0 ≤ szR left M → (PRows.tot M : Int) ≤ left ∧ ∀ r ∈ M, (r.length : Int) ≤ left
  | [], left, h => by
    rw [szR] at h
    exact ⟨by simpa [PRows.tot] using h, by simp⟩
  | r :: rs, left, h => by
    rw [szR] at h
    split at h
    · omega
    · next hc =>
      obtain ⟨h1, h2⟩ := szR_le rs _ h
      refine ⟨by rw [PRows.tot]; omega, fun x hx => ?_⟩
      rcases List.mem_cons.1 hx with rfl | hx
      · omega
      · have := h2 x hx
        omega
theorem sz_go (M : List (List Int)) (hM : M.length ≤ 4000000) (hr : ∀ r ∈ M, r.length ≤ 9223372036854775807) : ∀ (d i : Nat) (left : Int), i ≤ M.length → M.length - i = d → 0 ≤ left → left ≤ 2000000 → Ev (fun k => laws_szIntSS.l0 k M left (i : Int)) (szR left (M.drop i)) := by
  intro d
  induction d with
  | zero =>
    intro i left h1 h2 h3 h4
    rw [List.drop_of_length_le (by omega), szR]
    refine Ev.step (f := fun _ => some left) (fun k => ?_) (Ev.now _)
    simp only [laws_szIntSS.l0]
    rw [if_neg (by omega)]
  | succ d ih =>
    intro i left h1 h2 h3 h4
    have hi : i < M.length := by omega
    have er := rd_row hi
    have hrl := hr M[i] (List.getElem_mem hi)
    have hw2 : wrap64 ((i : Int) + 1) = ((i + 1 : Nat) : Int) := by rw [wrap_in (x := (i : Int) + 1) (by omega) (by omega)]; omega
    have HW2 := Aside0.mk hw2
    clear hw2
    have hs : laws_szIntS.f M[i] left = some (if left - (M[i].length : Int) < 0 then -1 else left - (M[i].length : Int)) := by
      unfold laws_szIntS.f
      rw [wrap_in (x := left - (M[i].length : Int)) (by omega) (by omega)]
      split <;> rfl
    rw [List.drop_eq_getElem_cons hi, szR]
    by_cases c : left - (M[i].length : Int) < 0
    · rw [if_pos c]
      rw [if_pos c] at hs
      refine Ev.step (f := fun _ => some (-1)) (fun k => ?_) (Ev.now _)
      simp only [laws_szIntSS.l0]
      rw [if_pos (by omega), if_pos (by omega), er, hs, Option.bind_some, if_pos (by omega)]
    · rw [if_neg c]
      rw [if_neg c] at hs
      refine Ev.step (f := fun k => laws_szIntSS.l0 k M (left - (M[i].length : Int)) ((i + 1 : Nat) : Int)) (fun k => ?_) (ih (i + 1) (left - (M[i].length : Int)) (by omega) (by omega) (by omega) (by omega))
      simp only [laws_szIntSS.l0]
      rw [if_pos (by omega), if_pos (by omega), er, hs, Option.bind_some, if_neg c, HW2.out]
def szA (M : List (List Int)) : Int := if 1048576 - (M.length : Int) < 0 then -1 else szR (1048576 - (M.length : Int)) M
theorem sz_ev (M : List (List Int)) (hM : M.length ≤ 9223372036854775807) (hr : ∀ r ∈ M, r.length ≤ 9223372036854775807) : Ev (fun k => laws_szIntSS.f k M 1048576) (szA M) := by
  have hw : wrap64 (1048576 - (M.length : Int)) = 1048576 - (M.length : Int) := wrap_in (by omega) (by omega)
  unfold szA
  simp only [laws_szIntSS.f, hw]
  clear hw
  by_cases c : 1048576 - (M.length : Int) < 0
  · rw [if_pos c]
    exact pos c (Ev.now _)
  · rw [if_neg c]
    exact neg c (sz_go M (by omega) hr M.length 0 _ (Nat.zero_le _) rfl (by omega) (by omega))
/-! a copy of rows -/
theorem copy_go (M : List (List Int)) (hM : M.length ≤ 4000000) (hr : ∀ r ∈ M, r.length ≤ 4000000) : ∀ (R D : List (List Int)) (T : List (List Int)), M = D ++ R → T.length = R.length → Ev (fun k => laws_toIntSS.l0 k M (D ++ T) (D.length : Int)) M
  | [], D, T, hm, hT => by
    have hT0 : T = [] := List.eq_nil_of_length_eq_zero hT
    subst hT0
    rw [← hm]
    refine Ev.step (f := fun _ => some M) (fun k => ?_) (Ev.now _)
    simp only [laws_toIntSS.l0]
    rw [if_neg (by rw [hm, List.length_append, List.length_nil]; omega)]
  | r :: rs, D, [], hm, hT => by simp at hT
  | r :: rs, D, t :: ts, hm, hT => by
    have ih := copy_go M hM hr rs (D ++ [r]) ts (by rw [hm]; simp) (by simpa using hT)
    rw [List.append_assoc, List.singleton_append, List.length_append, List.length_singleton] at ih
    have hml : M.length = D.length + (rs.length + 1) := by rw [hm, List.length_append, List.length_cons]
    have er : rd_L1 M (D.length : Int) = r := by
      unfold rd_L1
      rw [Int.toNat_natCast, hm, PRows.getD_mid]
    have hw2 : wrap64 ((D.length : Int) + 1) = ((D.length + 1 : Nat) : Int) := by rw [wrap_in (x := (D.length : Int) + 1) (by omega) (by omega)]; omega
    have HW2 := Aside0.mk hw2
    clear hw2
    refine Ev.step (f := fun k => (laws_toIntS.f k r).bind fun q => laws_toIntSS.l0 k M (D ++ q :: ts) ((D.length + 1 : Nat) : Int)) (fun k => ?_) (Ev.bind (PCopy.copy_ev r (hr r (by rw [hm]; simp))) ih)
    simp only [laws_toIntSS.l0]
    rw [if_pos (by omega), if_pos (by omega), er, HW2.out]
    congr 1
    funext q
    rw [if_pos (by rw [List.length_append, List.length_cons]; omega), Int.toNat_natCast, List.set_append_right _ _ (Nat.le_refl _), Nat.sub_self, List.set_cons_zero]
theorem copy_ev (M : List (List Int)) (hM : M.length ≤ 4000000) (hr : ∀ r ∈ M, r.length ≤ 4000000) : Ev (fun k => laws_toIntSS.f k M) M := by
  have := copy_go M hM hr M [] (List.replicate M.length []) rfl (by simp)
  refine Ev.congr (fun k => ?_) this
  unfold laws_toIntSS.f
  rw [if_pos (by omega), if_pos (by omega), Int.toNat_natCast]
  rfl
/-- Rounds enough for all that the law's helpers answer. -/
theorem ans (l : List Int) (hl : ¬ (l.length : Int) > 1048576) (M : List (List Int)) (hM : M.length ≤ 9223372036854775807) (hr : ∀ r ∈ M, r.length ≤ 9223372036854775807) (h0 : 0 ≤ szA M) : ∃ k k1 y1 k2 Y1 m R2, PlayAns k l M (szA M) (res l M).1 (res l M).2 k1 y1 k2 Y1 m R2 := by
  have hsz := sz_ev M hM hr
  have h1 := h0
  unfold szA at h1
  split at h1
  · omega
  · next hc =>
    obtain ⟨ht, hrr⟩ := szR_le M _ h1
    have hrs : ∀ r ∈ M, r.length ≤ 1000000 ∨ r.length ≤ 1048576 := fun r hx => .inr (by have := hrr r hx; omega)
    have hrl := res_small l M
    have e2 := PCopy.copy_ev l (by omega)
    have e3 := copy_ev M (by omega) (fun r hx => by have := hrr r hx; omega)
    have e4 := spec_r l (by omega) M
    have e5 := impl_r l (by omega) M
    have e6 := PInt.eqS (res l M).1 (by omega)
    have e7 := PInt.eqS l (by omega)
    have e8 := PRows.eqSS M (fun r hx => by have := hrr r hx; omega) (by omega)
    have e9 := PRows.marked 1 (by omega) (by omega) l (by omega)
    have e10 := PRows.mark_rows M [] (1 + (l.length : Int)) (by omega) (by omega) (fun r hx => by have := hrr r hx; omega) (by simp; omega)
    have e11 := PRows.marked 1 (by omega) (by omega) (res l M).1 (by omega)
    have e12 := PRows.held 1 (by omega) (by omega) (res l M).1.length (by omega)
    obtain ⟨K1, e1⟩ := hsz
    obtain ⟨K2, e2⟩ := e2
    obtain ⟨K3, e3⟩ := e3
    obtain ⟨K4, e4⟩ := e4
    obtain ⟨K5, e5⟩ := e5
    obtain ⟨K6, e6⟩ := e6
    obtain ⟨K7, e7⟩ := e7
    obtain ⟨K8, e8⟩ := e8
    obtain ⟨K9, e9⟩ := e9
    obtain ⟨K10, e10⟩ := e10
    obtain ⟨K11, e11⟩ := e11
    obtain ⟨K12, e12⟩ := e12
    exact ⟨K1 + K2 + K3 + K4 + K5 + K6 + K7 + K8 + K9 + K10 + K11 + K12, _, _, _, _, _, _, ⟨e1 _ (by omega), h0, e2 _ (by omega), e3 _ (by omega), e4 _ (by omega), e5 _ (by omega), e6 _ (by omega), e7 _ (by omega), e8 _ (by omega), e9 _ (by omega), e10 _ (by omega), e11 _ (by omega), e12 _ (by omega), by omega, by omega⟩⟩
end Go.Proofs.Ytnmibkkchgagbaa.PurePlay
