/- The law FnExactChompText answers true: both texts are the digits of the rows. Conditions: none beyond the law's own. -/
import Derived.Test.YtnmibkkchgagbaaDoorAx15
import Derived.Test.YtnmibkkchgagbaaDoorPText
import Derived.Test.YtnmibkkchgagbaaDoorPChomp
import Derived.Test.YtnmibkkchgagbaaDoorPCopy
import Derived.Test.YtnmibkkchgagbaaDoorPInt
namespace Go.Proofs.YtnmibkkchgagbaaDoor.Pure
open Go.RowKit Go.Proofs.YtnmibkkchgagbaaDoor.All Go.Proofs.YtnmibkkchgagbaaDoorW.PrintWords Go.Proofs.YtnmibkkchgagbaaDoorW.PrintLast Go.Proofs.YtnmibkkchgagbaaDoor.PEv Go.Proofs.YtnmibkkchgagbaaDoor.PText Go.Proofs.YtnmibkkchgagbaaDoor.PChomp
set_option linter.unusedVariables false

def none_ : ByteArray := ⟨#[]⟩
theorem join_none (xs : List (List UInt8)) : Lib.join xs [] = xs.flatten := by
  cases xs with
  | nil => rfl
  | cons x r =>
    rw [Lib.join_cons]
    simp [Lib.joinTail]
theorem txt_nil (l : List Int) : (txt l none_).data.toList = (l.map (fun n => dd n.toNat)).flatten := by
  rw [txt_data]
  exact join_none _
theorem size_data (b : ByteArray) : b.size = b.data.toList.length := by
  obtain ⟨a⟩ := b
  simp [ByteArray.size]
theorem txt_size (l : List Int) (h : l.length ≤ 6) : (txt l none_).size ≤ 100 := by
  rw [size_data, txt_data]
  have := join_len none_.data.toList l
  have h2 : none_.data.toList.length = 0 := rfl
  rw [h2] at this
  have : l.length * (0 + 2) ≤ 6 * 2 := Nat.mul_le_mul h (by omega)
  omega
theorem data_append_ (a b : ByteArray) : (a ++ b).data.toList = a.data.toList ++ b.data.toList := by
  obtain ⟨a⟩ := a
  obtain ⟨b⟩ := b
  rw [ByteArray.mk_append_mk]
theorem txt_step (l : List Int) (i : Nat) (h : i < l.length) : txt (l.take i) none_ ++ num l[i] = txt (l.take (i + 1)) none_ := by
  apply bytes_ext
  rw [data_append_, txt_nil, txt_nil, List.take_succ_eq_append_getElem h, List.map_append, List.flatten_append]
  congr 1
  simp [num]
theorem cm_go (l : List Int) (h : ok6 l) : ∀ (d i : Nat), i ≤ l.length → l.length - i = d → Ev (fun k => spec_cmText.l0 k (txt (l.take i) none_) l (l.length : Int) (i : Int)) (txt l none_) := by
  intro d
  induction d with
  | zero =>
    intro i h1 h2
    rw [List.take_of_length_le (by omega)]
    refine Ev.step (f := fun _ => some (txt l none_)) (fun k => ?_) (Ev.now _)
    simp only [spec_cmText.l0]
    rw [if_neg (by omega)]
  | succ d ih =>
    intro i h1 h2
    have hi : i < l.length := by omega
    have hl := h.1
    have er : rd l (i : Int) = l[i] := by simp [rd, List.getD_eq_getElem?_getD, hi]
    have hw2 : wrap64 ((i : Int) + 1) = ((i + 1 : Nat) : Int) := by rw [wrap_in (x := (i : Int) + 1) (by omega) (by omega)]; omega
    have hin := h.2 l[i] (List.getElem_mem hi)
    have hs1 := txt_size (l.take i) (by simp; omega)
    have hs2 := num_size l[i]
    have HW2 := Aside0.mk hw2
    have ER := Aside0.mk er
    clear hw2 er
    refine Ev.step (f := fun k => (spec_l1Num.f k l[i]).bind fun t => if (txt (l.take i) none_).size + t.size ≤ 9223372036854775807 then spec_cmText.l0 k (txt (l.take i) none_ ++ t) l (l.length : Int) ((i + 1 : Nat) : Int) else none) (fun k => ?_) ?_
    · simp only [spec_cmText.l0]
      rw [if_pos (by omega), if_pos (by omega), if_pos (by omega), ER.out, HW2.out]
    · refine Ev.bind (num_ev _ (by omega) (by omega)) (pos (by omega) ?_)
      rw [txt_step l i hi]
      exact ih (i + 1) (by omega) (by omega)
theorem cm_ev (l : List Int) (h : ok6 l) : Ev (fun k => spec_cmText.f k l) (txt l none_) := by
  have e : txt (l.take 0) none_ = (⟨#[]⟩ : ByteArray) := bytes_ext (by rw [txt_nil]; rfl)
  refine Ev.congr (fun k => ?_) (cm_go l h l.length 0 (Nat.zero_le _) rfl)
  rw [e]
  rfl
def res (l : List Int) : ByteArray × Bool := if isC l = true then (txt l none_, true) else (none_, false)
theorem spec_r (l : List Int) (hl : l.length ≤ 4000000) : Ev (fun k => spec_ChompText.f k l) (res l) := by
  unfold res
  simp only [spec_ChompText.f]
  refine Ev.bind (spec_isC l hl) ?_
  cases h1 : isC l with
  | true => exact pos rfl (Ev.bind (cm_ev l (isC_ok h1).1) (Ev.now _))
  | false => exact neg (by simp) (Ev.now _)
theorem impl_r (l : List Int) (hl : l.length ≤ 4000000) : Ev (fun k => impl_ChompText.f k l) (res l) := by
  unfold res
  simp only [impl_ChompText.f]
  refine Ev.bind (impl_isC l hl) ?_
  cases h1 : isC l with
  | true =>
    have hok := (isC_ok h1).1
    refine pos rfl (Ev.bind (a := txt l none_) ?_ (Ev.now _))
    simp only [impl_chompText.f]
    exact Ev.bind (joined_ev l none_ (by have := hok.1; omega) (by decide) (fun n hn => by have := hok.2 n hn; omega)) (Ev.now _)
  | false => exact neg (by simp) (Ev.now _)
theorem FnExactChompText : laws_FnExactChompText.Pure := by
  intro l0 h1 h2 h3
  apply Ev.rounds
  simp only [laws_FnExactChompText.f]
  by_cases hb : (l0.length : Int) > 1048576
  · exact pos hb (Ev.now _)
  refine neg hb ?_
  have hl : l0.length ≤ 4000000 := by omega
  refine Ev.bind (PCopy.copy_ev l0 hl) ?_
  refine Ev.bind (spec_r l0 hl) ?_
  refine Ev.bind (PCopy.copy_ev l0 hl) ?_
  refine Ev.bind (impl_r l0 hl) ?_
  refine pos rfl ?_
  refine Ev.step (f := fun k => (laws_toIntS.f k l0).bind fun t218 => ((laws_eqIntS.f k l0 t218).bind fun t221 => (if t221 = true then (some true) else (some false)))) (fun k => ?_) ?_
  · simp only [laws_FnExactChompText.j0]
    rw [if_neg (by simp)]
  · refine Ev.bind (PCopy.copy_ev l0 hl) ?_
    exact Ev.bind (PInt.eqS l0 hl) (pos rfl (Ev.now _))
end Go.Proofs.YtnmibkkchgagbaaDoor.Pure
