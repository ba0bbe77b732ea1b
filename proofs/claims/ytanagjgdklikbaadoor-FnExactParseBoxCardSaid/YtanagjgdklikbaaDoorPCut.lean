/- Three numbers with a sign between them: what l1Split and strings.FieldsFunc cut such a text into. Conditions: numbers from 0 to 99. -/
import Derived.Test.YtanagjgdklikbaaDoorPTot
import Derived.Test.YtanagjgdklikbaaDoorPText
namespace Go.Proofs.YtanagjgdklikbaaDoor.PCut
open Go.RowKit Go.Proofs.YtanagjgdklikbaaDoor.All Go.Proofs.YtanagjgdklikbaaDoorW.PrintWords Go.Proofs.YtanagjgdklikbaaDoorW.PrintLast Go.Proofs.YtanagjgdklikbaaDoor.PEv Go.Proofs.YtanagjgdklikbaaDoor.PText Go.Proofs.YtanagjgdklikbaaDoor.PTot
set_option linter.unusedSimpArgs false
set_option linter.unusedVariables false

def accS (e0 e1 : ByteArray) (i j m : Nat) : List ByteArray := if m ≤ i then [] else if m ≤ j then [e0] else [e0, e1]
def frS (i j m : Nat) : Nat := if m ≤ i then 0 else if m ≤ j then i + 1 else j + 1
theorem split_cut (s : ByteArray) (b : Int) (i j n : Nat) (hn : s.size = n) (hs : n ≤ 1048576) (hij : i < j) (hjn : j < n) (h1 : bt s (i : Int) = b) (h2 : bt s (j : Int) = b)
    (h3 : ∀ m : Nat, m < n → m ≠ i → m ≠ j → bt s (m : Int) ≠ b) : ∀ d m : Nat, m + d = n →
    Ev (fun k => spec_l1Split.l0 k s b (accS (s.extract 0 i) (s.extract (i + 1) j) i j m) ((frS i j m : Nat) : Int) (m : Int)) [s.extract 0 i, s.extract (i + 1) j, s.extract (j + 1) n] := by
  intro d
  induction d with
  | zero =>
    intro m hm
    have ha : accS (s.extract 0 i) (s.extract (i + 1) j) i j m = [s.extract 0 i, s.extract (i + 1) j] := by unfold accS; rw [if_neg (by omega), if_neg (by omega)]
    have hf : frS i j m = j + 1 := by unfold frS; rw [if_neg (by omega), if_neg (by omega)]
    rw [ha, hf]
    refine Ev.step (f := fun _ => some [s.extract 0 i, s.extract (i + 1) j, s.extract (j + 1) n]) (fun k => ?_) (Ev.now _)
    simp only [spec_l1Split.l0]
    rw [if_neg (by omega), if_pos (by omega), if_pos (by omega), if_pos (by simp), hn]
    rfl
  | succ d ih =>
    intro m hm
    have hw2 : wrap64 ((m : Int) + 1) = ((m + 1 : Nat) : Int) := by rw [wrap_in (x := (m : Int) + 1) (by omega) (by omega)]; omega
    have HW := Aside0.mk hw2
    clear hw2
    have hr := ih (m + 1) (by omega)
    by_cases c1 : m = i
    · have ha : accS (s.extract 0 i) (s.extract (i + 1) j) i j m = [] := by unfold accS; rw [if_pos (by omega)]
      have hf : frS i j m = 0 := by unfold frS; rw [if_pos (by omega)]
      have ha2 : accS (s.extract 0 i) (s.extract (i + 1) j) i j (m + 1) = [s.extract 0 i] := by unfold accS; rw [if_neg (by omega), if_pos (by omega)]
      have hf2 : frS i j (m + 1) = i + 1 := by unfold frS; rw [if_neg (by omega), if_pos (by omega)]
      rw [ha2, hf2] at hr
      rw [ha, hf]
      clear ih
      subst c1
      refine Ev.step (f := fun k => spec_l1Split.l0 k s b [s.extract 0 m] ((m + 1 : Nat) : Int) ((m + 1 : Nat) : Int)) (fun k => ?_) hr
      simp only [spec_l1Split.l0]
      rw [if_pos (by omega), if_pos (by omega), if_pos h1, if_pos (by omega), if_pos (by omega), if_pos (by omega), if_pos (by simp), HW.out]
      rfl
    · by_cases c2 : m = j
      · have ha : accS (s.extract 0 i) (s.extract (i + 1) j) i j m = [s.extract 0 i] := by unfold accS; rw [if_neg (by omega), if_pos (by omega)]
        have hf : frS i j m = i + 1 := by unfold frS; rw [if_neg (by omega), if_pos (by omega)]
        have ha2 : accS (s.extract 0 i) (s.extract (i + 1) j) i j (m + 1) = [s.extract 0 i, s.extract (i + 1) j] := by unfold accS; rw [if_neg (by omega), if_neg (by omega)]
        have hf2 : frS i j (m + 1) = j + 1 := by unfold frS; rw [if_neg (by omega), if_neg (by omega)]
        rw [ha2, hf2] at hr
        rw [ha, hf]
        clear ih
        subst c2
        refine Ev.step (f := fun k => spec_l1Split.l0 k s b [s.extract 0 i, s.extract (i + 1) m] ((m + 1 : Nat) : Int) ((m + 1 : Nat) : Int)) (fun k => ?_) hr
        simp only [spec_l1Split.l0]
        rw [if_pos (by omega), if_pos (by omega), if_pos h2, if_pos (by omega), if_pos (by omega), if_pos (by omega), if_pos (by simp), HW.out]
        rfl
      · have ha2 : accS (s.extract 0 i) (s.extract (i + 1) j) i j (m + 1) = accS (s.extract 0 i) (s.extract (i + 1) j) i j m := by
          unfold accS
          by_cases q : m ≤ i
          · rw [if_pos (by omega), if_pos q]
          · rw [if_neg (by omega), if_neg q]
            by_cases q2 : m ≤ j
            · rw [if_pos (by omega), if_pos q2]
            · rw [if_neg (by omega), if_neg q2]
        have hf2 : frS i j (m + 1) = frS i j m := by
          unfold frS
          by_cases q : m ≤ i
          · rw [if_pos (by omega), if_pos q]
          · rw [if_neg (by omega), if_neg q]
            by_cases q2 : m ≤ j
            · rw [if_pos (by omega), if_pos q2]
            · rw [if_neg (by omega), if_neg q2]
        rw [ha2, hf2] at hr
        have hne := h3 m (by omega) c1 c2
        refine Ev.step (f := fun k => spec_l1Split.l0 k s b (accS (s.extract 0 i) (s.extract (i + 1) j) i j m) ((frS i j m : Nat) : Int) ((m + 1 : Nat) : Int)) (fun k => ?_) hr
        simp only [spec_l1Split.l0]
        rw [if_pos (by omega), if_pos (by omega), if_neg hne, HW.out]

def stF (i j m : Nat) : Option Nat := if m = 0 then none else if m ≤ i then some 0 else if m = i + 1 then none else if m ≤ j then some (i + 1) else if m = j + 1 then none else some (j + 1)
def accF (i j m : Nat) : List (Nat × Nat) := if m ≤ i then [] else if m ≤ j then [(0, i)] else [(0, i), (i + 1, j)]
theorem spans_cut (p : Nat → Bool) (s : ByteArray) (i j n : Nat) (hn : s.size = n) (h0 : 0 < i) (hij : i + 1 < j) (hjn : j + 1 < n)
    (hd : ∀ m : Nat, m < n → ∃ c, Utf8.decode s m = (c, 1) ∧ p c = decide (m = i ∨ m = j)) : ∀ f m : Nat, m + f = n →
    Lib.spansFromP p s f m (stF i j m) (accF i j m) = ([(0, i), (i + 1, j)], some (j + 1)) := by
  intro f
  induction f with
  | zero =>
    intro m hm
    simp only [Lib.spansFromP]
    unfold stF accF
    rw [if_neg (by omega), if_neg (by omega), if_neg (by omega), if_neg (by omega), if_neg (by omega), if_neg (by omega), if_neg (by omega)]
  | succ f ih =>
    intro m hm
    have hr := ih (m + 1) (by omega)
    obtain ⟨c, hc, hp⟩ := hd m (by omega)
    unfold Lib.spansFromP
    rw [if_pos (by omega), hc]
    simp only [hp]
    rw [← hr]
    by_cases c1 : m = i
    · rw [decide_eq_true (Or.inl c1), if_pos rfl]
      have e1 : stF i j m = some 0 := by unfold stF; rw [if_neg (by omega), if_pos (by omega)]
      have e2 : stF i j (m + 1) = none := by unfold stF; rw [if_neg (by omega), if_neg (by omega), if_pos (by omega)]
      have e3 : accF i j m = [] := by unfold accF; rw [if_pos (by omega)]
      have e4 : accF i j (m + 1) = [(0, i)] := by unfold accF; rw [if_neg (by omega), if_pos (by omega)]
      rw [e1, e2, e3, e4, c1]
      rfl
    · by_cases c2 : m = j
      · rw [decide_eq_true (Or.inr c2), if_pos rfl]
        have e1 : stF i j m = some (i + 1) := by unfold stF; rw [if_neg (by omega), if_neg (by omega), if_neg (by omega), if_pos (by omega)]
        have e2 : stF i j (m + 1) = none := by unfold stF; rw [if_neg (by omega), if_neg (by omega), if_neg (by omega), if_neg (by omega), if_pos (by omega)]
        have e3 : accF i j m = [(0, i)] := by unfold accF; rw [if_neg (by omega), if_pos (by omega)]
        have e4 : accF i j (m + 1) = [(0, i), (i + 1, j)] := by unfold accF; rw [if_neg (by omega), if_neg (by omega)]
        rw [e1, e2, e3, e4, c2]
        rfl
      · rw [decide_eq_false (by omega), if_neg (by decide)]
        have e4 : accF i j (m + 1) = accF i j m := by
          unfold accF
          by_cases q : m ≤ i
          · rw [if_pos (by omega), if_pos q]
          · rw [if_neg (by omega), if_neg q]
            by_cases q2 : m ≤ j
            · rw [if_pos (by omega), if_pos q2]
            · rw [if_neg (by omega), if_neg q2]
        rw [e4]
        unfold stF
        by_cases q0 : m = 0
        · rw [if_pos q0, if_neg (by omega), if_pos (by omega), q0]
        · rw [if_neg q0]
          by_cases q : m ≤ i
          · rw [if_pos q, if_neg (by omega), if_pos (by omega)]
          · rw [if_neg q]
            by_cases q1 : m = i + 1
            · rw [if_pos q1, if_neg (by omega), if_neg (by omega), if_neg (by omega), if_pos (by omega), q1]
            · rw [if_neg q1]
              by_cases q2 : m ≤ j
              · rw [if_pos q2, if_neg (by omega), if_neg (by omega), if_neg (by omega), if_pos (by omega)]
              · rw [if_neg q2]
                by_cases q3 : m = j + 1
                · rw [if_pos q3, if_neg (by omega), if_neg (by omega), if_neg (by omega), if_neg (by omega), if_neg (by omega), q3]
                · rw [if_neg q3, if_neg (by omega), if_neg (by omega), if_neg (by omega), if_neg (by omega), if_neg (by omega)]
end Go.Proofs.YtanagjgdklikbaaDoor.PCut
