/- The law FnExactBarText answers true: both texts are the two numbers with a sign between them. Conditions: none beyond the law's own. -/
import Derived.Test.YtanagjgdklikbaaDoorAx20
import Derived.Test.YtanagjgdklikbaaDoorPText
namespace Go.Proofs.YtanagjgdklikbaaDoor.OwnFnExactBarText
open Go.RowKit Go.Proofs.YtanagjgdklikbaaDoor.All Go.Proofs.YtanagjgdklikbaaDoorW.PrintWords Go.Proofs.YtanagjgdklikbaaDoorW.PrintLast Go.Proofs.YtanagjgdklikbaaDoor.PEv Go.Proofs.YtanagjgdklikbaaDoor.PText
set_option linter.unusedVariables false
theorem in_eq (a lo hi : Int) : spec_l1In.f a lo hi = some (decide (lo ≤ a ∧ a ≤ hi)) := by
  unfold spec_l1In.f
  split <;> simp <;> omega
theorem within_eq (a lo hi : Int) : impl_within.f a lo hi = some (decide (lo ≤ a ∧ a ≤ hi)) := by
  unfold impl_within.f
  split <;> simp <;> omega
def good (a b : Int) : Bool := decide (1 ≤ a ∧ a ≤ 12) && decide (1 ≤ b ∧ b ≤ 12)
theorem spec_good (a b : Int) : spec_brGood.f a b = some (good a b) := by
  unfold spec_brGood.f good
  rw [in_eq, in_eq]
  simp only [Option.bind_some]
  cases decide (1 ≤ a ∧ a ≤ 12) <;> simp
theorem impl_good (a b : Int) : impl_isBar.f a b = some (good a b) := by
  unfold impl_isBar.f good
  rw [within_eq, within_eq]
  simp only [Option.bind_some]
  cases decide (1 ≤ a ∧ a ≤ 12) <;> simp
def x_ : ByteArray := ⟨#[120]⟩
theorem sz (a b : Int) : ((num a ++ x_).size + (num b).size ≤ 9223372036854775807) ∧ (num a).size + 1 ≤ 9223372036854775807 := by
  have h1 := num_size a
  have h2 := num_size b
  have h3 : x_.size = 1 := rfl
  rw [ByteArray.size_append]
  omega
def T (a b : Int) : ByteArray := (num a ++ x_) ++ num b
theorem good_in {a b : Int} (h : good a b = true) : (1 ≤ a ∧ a ≤ 12) ∧ 1 ≤ b ∧ b ≤ 12 := by
  unfold good at h
  simpa using h
theorem spec_t {a b : Int} (h : good a b = true) : Ev (fun k => spec_brText.f k a b) (T a b) := by
  have hg := good_in h
  have hz := sz a b
  simp only [spec_brText.f]
  refine Ev.bind (num_ev a (by omega) (by omega)) (pos hz.2 ?_)
  exact Ev.bind (num_ev b (by omega) (by omega)) (pos hz.1 (Ev.now _))
theorem impl_t {a b : Int} (h : good a b = true) : impl_Bar_text.f a b = some (T a b) := by
  have hg := good_in h
  have hz := sz a b
  unfold impl_Bar_text.f
  rw [itoa_eq a (by omega) (by omega), Option.bind_some, if_pos hz.2, itoa_eq b (by omega) (by omega), Option.bind_some]
  exact if_pos hz.1
def res (a b : Int) : ByteArray × Bool := if good a b = true then (T a b, true) else (⟨#[]⟩, false)
theorem spec_r (a b : Int) : Ev (fun k => spec_BarText.f k a b) (res a b) := by
  unfold res
  simp only [spec_BarText.f, spec_good, Option.bind_some]
  cases h : good a b with
  | true => exact pos rfl (Ev.bind (spec_t h) (Ev.now _))
  | false => exact neg (by simp) (Ev.now _)
theorem impl_r (a b : Int) : impl_BarText.f a b = some (res a b) := by
  unfold res impl_BarText.f
  rw [impl_good, Option.bind_some]
  cases h : good a b with
  | true => rw [if_pos rfl, impl_t h, if_pos rfl]; rfl
  | false => simp
theorem pure (a b : Int) (h0 : (Lit.int .i64 a).wf = true) (h1 : (Lit.int .i64 b).wf = true) : ∃ k : Nat, laws_FnExactBarText.f k a b = some true := by
  apply Ev.rounds
  simp only [laws_FnExactBarText.f, laws_toBar.f, Option.bind_some]
  refine Ev.bind (spec_r a b) ?_
  simp only [impl_r, Option.bind_some]
  exact pos trivial (neg (by simp) (Ev.now _))
end Go.Proofs.YtanagjgdklikbaaDoor.OwnFnExactBarText
