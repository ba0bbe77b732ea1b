/- The law FnExactBoxText answers true: both texts are the three numbers with a sign between them. Conditions: none beyond the law's own. -/
import Derived.Test.YtanagjgdklikbaaDoorAx21
import Derived.Test.YtanagjgdklikbaaDoorPText
namespace Go.Proofs.YtanagjgdklikbaaDoor.OwnFnExactBoxText
open Go.RowKit Go.Proofs.YtanagjgdklikbaaDoor.All Go.Proofs.YtanagjgdklikbaaDoorW.PrintWords Go.Proofs.YtanagjgdklikbaaDoorW.PrintLast Go.Proofs.YtanagjgdklikbaaDoor.PEv Go.Proofs.YtanagjgdklikbaaDoor.PText
set_option linter.unusedVariables false
theorem in_eq (a lo hi : Int) : spec_l1In.f a lo hi = some (decide (lo ≤ a ∧ a ≤ hi)) := by
  unfold spec_l1In.f
  split <;> simp <;> omega
theorem within_eq (a lo hi : Int) : impl_within.f a lo hi = some (decide (lo ≤ a ∧ a ≤ hi)) := by
  unfold impl_within.f
  split <;> simp <;> omega
def good (a b c : Int) : Bool := decide ((1 ≤ c ∧ c ≤ b) ∧ b ≤ a ∧ a ≤ 60)
theorem spec_good (a b c : Int) : spec_wrGood.f a b c = some (good a b c) := by
  unfold spec_wrGood.f good
  rw [in_eq, in_eq, in_eq]
  simp only [Option.bind_some, decide_eq_true_eq]
  split
  · split
    · congr 1
      rw [decide_eq_decide]
      omega
    · congr 1
      symm
      rw [decide_eq_false_iff_not]
      omega
  · congr 1
    symm
    rw [decide_eq_false_iff_not]
    omega
theorem impl_good (a b c : Int) : impl_IsBox.f a b c = some (good a b c) := by
  unfold impl_IsBox.f good
  rw [within_eq]
  simp only [Option.bind_some, decide_eq_true_eq]
  split
  · split
    · congr 1
      rw [decide_eq_decide]
      omega
    · congr 1
      symm
      rw [decide_eq_false_iff_not]
      omega
  · congr 1
    symm
    rw [decide_eq_false_iff_not]
    omega
def x_ : ByteArray := ⟨#[42]⟩
def T (a b c : Int) : ByteArray := (((num a ++ x_) ++ num b) ++ x_) ++ num c
theorem sz (a b c : Int) : (num a).size + 1 ≤ 9223372036854775807 ∧ (num a ++ x_).size + (num b).size ≤ 9223372036854775807 ∧ ((num a ++ x_) ++ num b).size + 1 ≤ 9223372036854775807 ∧ (((num a ++ x_) ++ num b) ++ x_).size + (num c).size ≤ 9223372036854775807 := by
  have h1 := num_size a
  have h2 := num_size b
  have h3 := num_size c
  have h4 : x_.size = 1 := rfl
  simp only [ByteArray.size_append]
  omega
theorem good_in {a b c : Int} (h : good a b c = true) : (1 ≤ c ∧ c ≤ b) ∧ b ≤ a ∧ a ≤ 60 := by
  unfold good at h
  simpa using h
theorem spec_t {a b c : Int} (h : good a b c = true) : Ev (fun k => spec_wrText.f k a b c) (T a b c) := by
  have hg := good_in h
  have hz := sz a b c
  simp only [spec_wrText.f]
  refine Ev.bind (num_ev a (by omega) (by omega)) (pos hz.1 ?_)
  refine Ev.bind (num_ev b (by omega) (by omega)) (pos hz.2.1 (pos hz.2.2.1 ?_))
  exact Ev.bind (num_ev c (by omega) (by omega)) (pos hz.2.2.2 (Ev.now _))
theorem data_app (a b : ByteArray) : (a ++ b).data.toList = a.data.toList ++ b.data.toList := by
  obtain ⟨a⟩ := a
  obtain ⟨b⟩ := b
  rw [ByteArray.mk_append_mk]
theorem T_eq (a b c : Int) : txt [a, b, c] x_ = T a b c := by
  apply bytes_ext
  rw [txt_data]
  unfold T
  simp only [data_app, List.map_cons, List.map_nil, Lib.join_cons, Lib.joinTail, List.flatten_cons, List.flatten_nil, List.append_nil, num, List.append_assoc]
theorem impl_t {a b c : Int} (h : good a b c = true) : Ev (fun k => impl_Box_text.f k a b c) (T a b c) := by
  have hg := good_in h
  simp only [impl_Box_text.f]
  refine Ev.bind (a := txt [a, b, c] x_) (joined_ev [a, b, c] x_ (by simp) (by decide) (fun n hn => ?_)) ?_
  · simp only [List.mem_cons, List.not_mem_nil, or_false] at hn
    omega
  · rw [T_eq]
    exact Ev.now _
def res (a b c : Int) : ByteArray × Bool := if good a b c = true then (T a b c, true) else (⟨#[]⟩, false)
theorem spec_r (a b c : Int) : Ev (fun k => spec_BoxText.f k a b c) (res a b c) := by
  unfold res
  simp only [spec_BoxText.f, spec_good, Option.bind_some]
  cases h : good a b c with
  | true => exact pos rfl (Ev.bind (spec_t h) (Ev.now _))
  | false => exact neg (by simp) (Ev.now _)
theorem impl_r (a b c : Int) : Ev (fun k => impl_BoxText.f k a b c) (res a b c) := by
  unfold res
  simp only [impl_BoxText.f, impl_good, Option.bind_some]
  cases h : good a b c with
  | true => exact pos rfl (Ev.bind (impl_t h) (Ev.now _))
  | false => exact neg (by simp) (Ev.now _)
theorem pure (a b c : Int) (h0 : (Lit.int .i64 a).wf = true) (h1 : (Lit.int .i64 b).wf = true) (h2 : (Lit.int .i64 c).wf = true) : ∃ k : Nat, laws_FnExactBoxText.f k a b c = some true := by
  apply Ev.rounds
  simp only [laws_FnExactBoxText.f, laws_toBox.f, Option.bind_some]
  refine Ev.bind (spec_r a b c) ?_
  refine Ev.bind (impl_r a b c) ?_
  exact pos rfl (neg (by simp) (Ev.now _))
end Go.Proofs.YtanagjgdklikbaaDoor.OwnFnExactBoxText
