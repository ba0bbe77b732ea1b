/- The text of three numbers with '*' between them is cut into the three. Conditions: numbers from 0 to 99. -/
import Derived.Test.YtanagjgdklikbaaDoorPCut
import Derived.Laws.RangeString
namespace Go.Proofs.YtanagjgdklikbaaDoor.PCut
open Go.RowKit Go.Proofs.YtanagjgdklikbaaDoor.All Go.Proofs.YtanagjgdklikbaaDoorW.PrintWords Go.Proofs.YtanagjgdklikbaaDoorW.PrintLast Go.Proofs.YtanagjgdklikbaaDoor.PEv Go.Proofs.YtanagjgdklikbaaDoor.PText Go.Proofs.YtanagjgdklikbaaDoor.PTot
set_option linter.unusedSimpArgs false
set_option linter.unusedVariables false
theorem num_shape (n : Int) (h0 : 0 ≤ n) (h1 : n < 100) : (∃ x : UInt8, num n = ⟨#[x]⟩ ∧ 48 ≤ x.toNat ∧ x.toNat ≤ 57) ∨ ∃ x y : UInt8, num n = ⟨#[x, y]⟩ ∧ (48 ≤ x.toNat ∧ x.toNat ≤ 57) ∧ 48 ≤ y.toNat ∧ y.toNat ≤ 57 := by
  obtain ⟨m, rfl⟩ := Int.eq_ofNat_of_zero_le h0
  unfold num dd
  split
  · left
    exact ⟨_, rfl, by simp; omega, by simp; omega⟩
  · right
    exact ⟨_, _, rfl, by simp; omega, by simp; omega⟩
theorem cut_both (s A B C : ByteArray) (i j n : Nat) (hn : s.size = n) (hs : n ≤ 1048576) (h0 : 0 < i) (hij : i + 1 < j) (hjn : j + 1 < n)
    (hB : ∀ m : Nat, m < n → bt s (m : Int) < 128 ∧ (bt s (m : Int) = 42 ↔ (m = i ∨ m = j))) (eA : s.extract 0 i = A) (eB : s.extract (i + 1) j = B) (eC : s.extract (j + 1) n = C) :
    Ev (fun k => spec_l1Split.f k s 42) [A, B, C] ∧ Lib.goFieldsP (isSign ⟨#[42]⟩) s = [A, B, C] := by
  subst eA; subst eB; subst eC
  constructor
  · have h := split_cut s 42 i j n hn hs (by omega) (by omega) ((hB i (by omega)).2.2 (Or.inl rfl)) ((hB j (by omega)).2.2 (Or.inr rfl)) (fun m h1 h2 h3 e => by
      rcases (hB m h1).2.1 e with e1 | e1
      · exact h2 e1
      · exact h3 e1) n 0 (by omega)
    have ha : accS (s.extract 0 i) (s.extract (i + 1) j) i j 0 = [] := by unfold accS; rw [if_pos (by omega)]
    have hf : frS i j 0 = 0 := by unfold frS; rw [if_pos (by omega)]
    rw [ha, hf] at h
    exact Ev.congr (fun k => rfl) h
  · have h := spans_cut (isSign ⟨#[42]⟩) s i j n hn h0 hij hjn (fun m h1 => by
      have hb := hB m h1
      have hm : m < s.size := by omega
      have e : bt s (m : Int) = ((s[m]'hm).toNat : Int) := by simp [bt, hm]
      rw [e] at hb
      refine ⟨(s[m]'hm).toNat, decode_ascii s m hm (by omega), ?_⟩
      unfold isSign
      show decide ((s[m]'hm).toNat = 42) = _
      rw [decide_eq_decide]
      constructor
      · intro e2; exact hb.2.1 (by omega)
      · intro e2; have := hb.2.2 e2; omega) n 0 (by omega)
    have e1 : stF i j 0 = none := rfl
    have e2 : accF i j 0 = [] := by unfold accF; rw [if_pos (by omega)]
    rw [e1, e2] at h
    unfold Lib.goFieldsP Lib.spansOfP
    rw [hn, h]
    simp [Lib.closeSpans, hn]
def x_ : ByteArray := ⟨#[42]⟩
set_option maxHeartbeats 2000000 in
theorem cut3 (a b c : Int) (ha : 0 ≤ a ∧ a < 100) (hb : 0 ≤ b ∧ b < 100) (hc : 0 ≤ c ∧ c < 100) :
    Ev (fun k => spec_l1Split.f k ((((num a ++ x_) ++ num b) ++ x_) ++ num c) 42) [num a, num b, num c] ∧ Lib.goFieldsP (isSign ⟨#[42]⟩) ((((num a ++ x_) ++ num b) ++ x_) ++ num c) = [num a, num b, num c] := by
  rcases num_shape a ha.1 ha.2 with ⟨a0, eA, pa⟩ | ⟨a0, a1, eA, pa⟩ <;> rcases num_shape b hb.1 hb.2 with ⟨b0, eB, pb⟩ | ⟨b0, b1, eB, pb⟩ <;> rcases num_shape c hc.1 hc.2 with ⟨c0, eC, pc⟩ | ⟨c0, c1, eC, pc⟩ <;> rw [eA, eB, eC] <;> clear eA eB eC ha hb hc
  · refine cut_both _ _ _ _ 1 3 5 rfl (by decide) (by decide) (by decide) (by decide) (fun m hm => ?_) rfl rfl rfl
    have hm : m = 0 ∨ m = 1 ∨ m = 2 ∨ m = 3 ∨ m = 4 := by omega
    rcases hm with rfl | rfl | rfl | rfl | rfl
    · show ((a0.toNat : Int) < 128 ∧ ((a0.toNat : Int) = 42 ↔ _)); omega
    · show ((42 : Int) < 128 ∧ ((42 : Int) = 42 ↔ _)); omega
    · show ((b0.toNat : Int) < 128 ∧ ((b0.toNat : Int) = 42 ↔ _)); omega
    · show ((42 : Int) < 128 ∧ ((42 : Int) = 42 ↔ _)); omega
    · show ((c0.toNat : Int) < 128 ∧ ((c0.toNat : Int) = 42 ↔ _)); omega
  · refine cut_both _ _ _ _ 1 3 6 rfl (by decide) (by decide) (by decide) (by decide) (fun m hm => ?_) rfl rfl rfl
    have hm : m = 0 ∨ m = 1 ∨ m = 2 ∨ m = 3 ∨ m = 4 ∨ m = 5 := by omega
    rcases hm with rfl | rfl | rfl | rfl | rfl | rfl
    · show ((a0.toNat : Int) < 128 ∧ ((a0.toNat : Int) = 42 ↔ _)); omega
    · show ((42 : Int) < 128 ∧ ((42 : Int) = 42 ↔ _)); omega
    · show ((b0.toNat : Int) < 128 ∧ ((b0.toNat : Int) = 42 ↔ _)); omega
    · show ((42 : Int) < 128 ∧ ((42 : Int) = 42 ↔ _)); omega
    · show ((c0.toNat : Int) < 128 ∧ ((c0.toNat : Int) = 42 ↔ _)); omega
    · show ((c1.toNat : Int) < 128 ∧ ((c1.toNat : Int) = 42 ↔ _)); omega
  · refine cut_both _ _ _ _ 1 4 6 rfl (by decide) (by decide) (by decide) (by decide) (fun m hm => ?_) rfl rfl rfl
    have hm : m = 0 ∨ m = 1 ∨ m = 2 ∨ m = 3 ∨ m = 4 ∨ m = 5 := by omega
    rcases hm with rfl | rfl | rfl | rfl | rfl | rfl
    · show ((a0.toNat : Int) < 128 ∧ ((a0.toNat : Int) = 42 ↔ _)); omega
    · show ((42 : Int) < 128 ∧ ((42 : Int) = 42 ↔ _)); omega
    · show ((b0.toNat : Int) < 128 ∧ ((b0.toNat : Int) = 42 ↔ _)); omega
    · show ((b1.toNat : Int) < 128 ∧ ((b1.toNat : Int) = 42 ↔ _)); omega
    · show ((42 : Int) < 128 ∧ ((42 : Int) = 42 ↔ _)); omega
    · show ((c0.toNat : Int) < 128 ∧ ((c0.toNat : Int) = 42 ↔ _)); omega
  · refine cut_both _ _ _ _ 1 4 7 rfl (by decide) (by decide) (by decide) (by decide) (fun m hm => ?_) rfl rfl rfl
    have hm : m = 0 ∨ m = 1 ∨ m = 2 ∨ m = 3 ∨ m = 4 ∨ m = 5 ∨ m = 6 := by omega
    rcases hm with rfl | rfl | rfl | rfl | rfl | rfl | rfl
    · show ((a0.toNat : Int) < 128 ∧ ((a0.toNat : Int) = 42 ↔ _)); omega
    · show ((42 : Int) < 128 ∧ ((42 : Int) = 42 ↔ _)); omega
    · show ((b0.toNat : Int) < 128 ∧ ((b0.toNat : Int) = 42 ↔ _)); omega
    · show ((b1.toNat : Int) < 128 ∧ ((b1.toNat : Int) = 42 ↔ _)); omega
    · show ((42 : Int) < 128 ∧ ((42 : Int) = 42 ↔ _)); omega
    · show ((c0.toNat : Int) < 128 ∧ ((c0.toNat : Int) = 42 ↔ _)); omega
    · show ((c1.toNat : Int) < 128 ∧ ((c1.toNat : Int) = 42 ↔ _)); omega
  · refine cut_both _ _ _ _ 2 4 6 rfl (by decide) (by decide) (by decide) (by decide) (fun m hm => ?_) rfl rfl rfl
    have hm : m = 0 ∨ m = 1 ∨ m = 2 ∨ m = 3 ∨ m = 4 ∨ m = 5 := by omega
    rcases hm with rfl | rfl | rfl | rfl | rfl | rfl
    · show ((a0.toNat : Int) < 128 ∧ ((a0.toNat : Int) = 42 ↔ _)); omega
    · show ((a1.toNat : Int) < 128 ∧ ((a1.toNat : Int) = 42 ↔ _)); omega
    · show ((42 : Int) < 128 ∧ ((42 : Int) = 42 ↔ _)); omega
    · show ((b0.toNat : Int) < 128 ∧ ((b0.toNat : Int) = 42 ↔ _)); omega
    · show ((42 : Int) < 128 ∧ ((42 : Int) = 42 ↔ _)); omega
    · show ((c0.toNat : Int) < 128 ∧ ((c0.toNat : Int) = 42 ↔ _)); omega
  · refine cut_both _ _ _ _ 2 4 7 rfl (by decide) (by decide) (by decide) (by decide) (fun m hm => ?_) rfl rfl rfl
    have hm : m = 0 ∨ m = 1 ∨ m = 2 ∨ m = 3 ∨ m = 4 ∨ m = 5 ∨ m = 6 := by omega
    rcases hm with rfl | rfl | rfl | rfl | rfl | rfl | rfl
    · show ((a0.toNat : Int) < 128 ∧ ((a0.toNat : Int) = 42 ↔ _)); omega
    · show ((a1.toNat : Int) < 128 ∧ ((a1.toNat : Int) = 42 ↔ _)); omega
    · show ((42 : Int) < 128 ∧ ((42 : Int) = 42 ↔ _)); omega
    · show ((b0.toNat : Int) < 128 ∧ ((b0.toNat : Int) = 42 ↔ _)); omega
    · show ((42 : Int) < 128 ∧ ((42 : Int) = 42 ↔ _)); omega
    · show ((c0.toNat : Int) < 128 ∧ ((c0.toNat : Int) = 42 ↔ _)); omega
    · show ((c1.toNat : Int) < 128 ∧ ((c1.toNat : Int) = 42 ↔ _)); omega
  · refine cut_both _ _ _ _ 2 5 7 rfl (by decide) (by decide) (by decide) (by decide) (fun m hm => ?_) rfl rfl rfl
    have hm : m = 0 ∨ m = 1 ∨ m = 2 ∨ m = 3 ∨ m = 4 ∨ m = 5 ∨ m = 6 := by omega
    rcases hm with rfl | rfl | rfl | rfl | rfl | rfl | rfl
    · show ((a0.toNat : Int) < 128 ∧ ((a0.toNat : Int) = 42 ↔ _)); omega
    · show ((a1.toNat : Int) < 128 ∧ ((a1.toNat : Int) = 42 ↔ _)); omega
    · show ((42 : Int) < 128 ∧ ((42 : Int) = 42 ↔ _)); omega
    · show ((b0.toNat : Int) < 128 ∧ ((b0.toNat : Int) = 42 ↔ _)); omega
    · show ((b1.toNat : Int) < 128 ∧ ((b1.toNat : Int) = 42 ↔ _)); omega
    · show ((42 : Int) < 128 ∧ ((42 : Int) = 42 ↔ _)); omega
    · show ((c0.toNat : Int) < 128 ∧ ((c0.toNat : Int) = 42 ↔ _)); omega
  · refine cut_both _ _ _ _ 2 5 8 rfl (by decide) (by decide) (by decide) (by decide) (fun m hm => ?_) rfl rfl rfl
    have hm : m = 0 ∨ m = 1 ∨ m = 2 ∨ m = 3 ∨ m = 4 ∨ m = 5 ∨ m = 6 ∨ m = 7 := by omega
    rcases hm with rfl | rfl | rfl | rfl | rfl | rfl | rfl | rfl
    · show ((a0.toNat : Int) < 128 ∧ ((a0.toNat : Int) = 42 ↔ _)); omega
    · show ((a1.toNat : Int) < 128 ∧ ((a1.toNat : Int) = 42 ↔ _)); omega
    · show ((42 : Int) < 128 ∧ ((42 : Int) = 42 ↔ _)); omega
    · show ((b0.toNat : Int) < 128 ∧ ((b0.toNat : Int) = 42 ↔ _)); omega
    · show ((b1.toNat : Int) < 128 ∧ ((b1.toNat : Int) = 42 ↔ _)); omega
    · show ((42 : Int) < 128 ∧ ((42 : Int) = 42 ↔ _)); omega
    · show ((c0.toNat : Int) < 128 ∧ ((c0.toNat : Int) = 42 ↔ _)); omega
    · show ((c1.toNat : Int) < 128 ∧ ((c1.toNat : Int) = 42 ↔ _)); omega
end Go.Proofs.YtanagjgdklikbaaDoor.PCut
