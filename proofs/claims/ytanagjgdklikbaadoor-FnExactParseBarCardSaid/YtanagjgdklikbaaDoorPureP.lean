/- The law FnExactParseBar answers true: both readers accept just the texts of bars. Conditions: none beyond the law's own. -/
import Derived.Test.YtanagjgdklikbaaDoorAx17
import Derived.Test.YtanagjgdklikbaaDoorPTot
import Derived.Test.YtanagjgdklikbaaDoorPText
namespace Go.Proofs.YtanagjgdklikbaaDoor.PureP
open Go.RowKit Go.Proofs.YtanagjgdklikbaaDoor.All Go.Proofs.YtanagjgdklikbaaDoorW.PrintWords Go.Proofs.YtanagjgdklikbaaDoorW.PrintLast Go.Proofs.YtanagjgdklikbaaDoor.PEv Go.Proofs.YtanagjgdklikbaaDoor.PText Go.Proofs.YtanagjgdklikbaaDoor.PTot
set_option linter.unusedSimpArgs false
set_option linter.unusedVariables false
theorem within_eq (a lo hi : Int) : impl_within.f a lo hi = some (decide (lo ≤ a ∧ a ≤ hi)) := by
  unfold impl_within.f
  split <;> simp <;> omega
def good (a b : Int) : Bool := decide (1 ≤ a ∧ a ≤ 12) && decide (1 ≤ b ∧ b ≤ 12)
theorem spec_good (a b : Int) : spec_brGood.f a b = some (good a b) := by
  unfold spec_brGood.f good
  rw [in_eq, in_eq]
  simp only [Option.bind_some]
  cases decide (1 ≤ a ∧ a ≤ 12) <;> simp
theorem impl_good (a b : Int) : impl_isBar.f a b = some (good a b) := by
  unfold impl_isBar.f good
  rw [within_eq, within_eq]
  simp only [Option.bind_some]
  cases decide (1 ≤ a ∧ a ≤ 12) <;> simp
def x_ : ByteArray := ⟨#[120]⟩
theorem sz (a b : Int) : ((num a ++ x_).size + (num b).size ≤ 9223372036854775807) ∧ (num a).size + 1 ≤ 9223372036854775807 := by
  have h1 := num_size a
  have h2 := num_size b
  have h3 : x_.size = 1 := rfl
  rw [ByteArray.size_append]
  omega
def T (a b : Int) : ByteArray := (num a ++ x_) ++ num b
theorem good_in {a b : Int} (h : good a b = true) : (1 ≤ a ∧ a ≤ 12) ∧ 1 ≤ b ∧ b ≤ 12 := by
  unfold good at h
  simpa using h
theorem spec_t {a b : Int} (h : good a b = true) : Ev (fun k => spec_brText.f k a b) (T a b) := by
  have hg := good_in h
  have hz := sz a b
  simp only [spec_brText.f]
  refine Ev.bind (num_ev a (by omega) (by omega)) (pos hz.2 ?_)
  exact Ev.bind (num_ev b (by omega) (by omega)) (pos hz.1 (Ev.now _))
theorem impl_t {a b : Int} (h : good a b = true) : impl_Bar_text.f a b = some (T a b) := by
  have hg := good_in h
  have hz := sz a b
  unfold impl_Bar_text.f
  rw [itoa_eq a (by omega) (by omega), Option.bind_some, if_pos hz.2, itoa_eq b (by omega) (by omega), Option.bind_some]
  exact if_pos hz.1
theorem same {a b : ByteArray} (h : a.toList = b.toList) : a = b := by
  rw [ByteArray.toList_eq, ByteArray.toList_eq] at h
  exact bytes_ext h

/-- What a reader may answer: nothing, or a bar with this text. -/
def Ans (s : ByteArray) (r : Int × Int × Bool) : Prop := r = (0, 0, false) ∨ ∃ a b, good a b = true ∧ T a b = s ∧ r = (a, b, true)

theorem spec_ans (s : ByteArray) (hs : s.size ≤ 1048576) : ∃ r, Ans s r ∧ Ev (fun k => spec_ParseBar.f k s) r := by
  have hP : ∃ q : Int × Int × Bool, (q.2.2 = true → good q.1 q.2.1 = true ∧ T q.1 q.2.1 = s) ∧ Ev (fun k => spec_brParse.f k s) q := by
    obtain ⟨l, hl⟩ := split_ev s 120 hs
    have hj : ∀ c : Bool, (c = false → l.length = 2) → ∃ q : Int × Int × Bool, (q.2.2 = true → good q.1 q.2.1 = true ∧ T q.1 q.2.1 = s) ∧ Ev (fun k => spec_brParse.j0 k s l c) q := by
      intro c hc
      cases c with
      | true =>
        refine ⟨(0, 0, false), (fun h => by cases h), Ev.step (f := fun _ => some (0, 0, false)) (fun k => ?_) (Ev.now _)⟩
        simp [spec_brParse.j0]
      | false =>
        have h2 := hc rfl
        obtain ⟨v0, e0⟩ := read_ev (rdOf ByteArray.empty l 0)
        obtain ⟨v1, e1⟩ := read_ev (rdOf ByteArray.empty l 1)
        cases hg : good v0 v1 with
        | true =>
          refine ⟨(v0, v1, ((T v0 v1).toList == s.toList)), fun h => ⟨hg, same (by simpa using h)⟩, ?_⟩
          refine Ev.step (f := fun k => (spec_l1Read.f k (rdOf ByteArray.empty l 0)).bind fun t151 => (spec_l1Read.f k (rdOf ByteArray.empty l 1)).bind fun t153 => ((spec_brGood.f t151 t153).bind fun t155 => (if t155 = true then ((spec_brText.f k t151 t153).bind fun t156 => (some (t151, t153, (t156.toList == s.toList)))) else (some (t151, t153, false))))) (fun k => ?_) ?_
          · simp only [spec_brParse.j0]
            rw [if_neg (by decide), if_pos (by omega)]
            simp only [show (1 : Int) < (l.length : Int) by omega, if_true]
          · refine Ev.bind e0 (Ev.bind e1 ?_)
            simp only [spec_good, Option.bind_some, hg, if_true]
            exact Ev.bind (spec_t hg) (Ev.now _)
        | false =>
          refine ⟨(v0, v1, false), (fun h => by cases h), ?_⟩
          refine Ev.step (f := fun k => (spec_l1Read.f k (rdOf ByteArray.empty l 0)).bind fun t151 => (spec_l1Read.f k (rdOf ByteArray.empty l 1)).bind fun t153 => ((spec_brGood.f t151 t153).bind fun t155 => (if t155 = true then ((spec_brText.f k t151 t153).bind fun t156 => (some (t151, t153, (t156.toList == s.toList)))) else (some (t151, t153, false))))) (fun k => ?_) ?_
          · simp only [spec_brParse.j0]
            rw [if_neg (by decide), if_pos (by omega)]
            simp only [show (1 : Int) < (l.length : Int) by omega, if_true]
          · refine Ev.bind e0 (Ev.bind e1 ?_)
            simp only [spec_good, Option.bind_some, hg, if_true]
            exact Ev.now _
    by_cases h5 : (s.size : Int) > 5
    · obtain ⟨q, hq, he⟩ := hj true (fun e => by cases e)
      refine ⟨q, hq, ?_⟩
      simp only [spec_brParse.f]
      exact Ev.bind hl (pos h5 he)
    · obtain ⟨q, hq, he⟩ := hj ((l.length : Int) != 2) (fun e => by simp at e; omega)
      refine ⟨q, hq, ?_⟩
      simp only [spec_brParse.f]
      exact Ev.bind hl (neg h5 he)
  obtain ⟨⟨a, b, c⟩, hq, he⟩ := hP
  cases c with
  | true =>
    obtain ⟨h1, h2⟩ := hq rfl
    refine ⟨(a, b, true), Or.inr ⟨a, b, h1, h2, rfl⟩, ?_⟩
    simp only [spec_ParseBar.f]
    exact Ev.bind he (pos rfl (Ev.now _))
  | false =>
    refine ⟨(0, 0, false), Or.inl rfl, ?_⟩
    simp only [spec_ParseBar.f]
    exact Ev.bind he (neg (by simp) (Ev.now _))

theorem impl_ans (s : ByteArray) (hs : s.size ≤ 1048576) : ∃ r, Ans s r ∧ Ev (fun k => impl_ParseBar.f k s) r := by
  obtain ⟨⟨l, ok⟩, hl⟩ := numbers_ev s ⟨#[120]⟩ 12 hs (Or.inl rfl)
  have hj : ∀ c : Bool, (c = false → l.length = 2) → ∃ r, Ans s r ∧ Ev (fun k => impl_ParseBar.j0 k s l c) r := by
    intro c hc
    cases c with
    | true =>
      refine ⟨(0, 0, false), Or.inl rfl, Ev.step (f := fun _ => some (0, 0, false)) (fun k => ?_) (Ev.now _)⟩
      simp [impl_ParseBar.j0]
    | false =>
      have h2 := hc rfl
      cases hg : good (rd l 0) (rd l 1) with
      | false =>
        refine ⟨(0, 0, false), Or.inl rfl, Ev.step (f := fun _ => some (0, 0, false)) (fun k => ?_) (Ev.now _)⟩
        simp only [impl_ParseBar.j0]
        rw [if_neg (by decide), if_pos (by omega), if_pos (by omega), impl_good, hg, Option.bind_some, if_neg (by decide)]
      | true =>
        by_cases ht : (T (rd l 0) (rd l 1)).toList = s.toList
        · refine ⟨(rd l 0, rd l 1, true), Or.inr ⟨_, _, hg, same ht, rfl⟩, Ev.step (f := fun _ => some (rd l 0, rd l 1, true)) (fun k => ?_) (Ev.now _)⟩
          simp only [impl_ParseBar.j0]
          rw [if_neg (by decide), if_pos (by omega), if_pos (by omega), impl_good, hg, Option.bind_some, if_pos rfl, impl_t hg, Option.bind_some, if_pos ht]
        · refine ⟨(0, 0, false), Or.inl rfl, Ev.step (f := fun _ => some (0, 0, false)) (fun k => ?_) (Ev.now _)⟩
          simp only [impl_ParseBar.j0]
          rw [if_neg (by decide), if_pos (by omega), if_pos (by omega), impl_good, hg, Option.bind_some, if_pos rfl, impl_t hg, Option.bind_some, if_neg ht]
  cases ok with
  | true =>
    obtain ⟨r, hr, he⟩ := hj ((l.length : Int) != 2) (fun e => by simp at e; omega)
    refine ⟨r, hr, ?_⟩
    simp only [impl_ParseBar.f]
    exact Ev.bind hl (pos rfl he)
  | false =>
    obtain ⟨r, hr, he⟩ := hj true (fun e => by cases e)
    refine ⟨r, hr, ?_⟩
    simp only [impl_ParseBar.f]
    exact Ev.bind hl (neg (by simp) he)

theorem spec_exact : ∀ a b : Fin 12, spec_ParseBar.f 20 (T ((a.val : Int) + 1) ((b.val : Int) + 1)) = some ((a.val : Int) + 1, (b.val : Int) + 1, true) := by decide +kernel
theorem fields_exact : ∀ a b : Fin 12, Lib.goFieldsP (isSign ⟨#[120]⟩) (T ((a.val : Int) + 1) ((b.val : Int) + 1)) = [num ((a.val : Int) + 1), num ((b.val : Int) + 1)] := by decide +kernel
theorem atoi_exact : ∀ n : Fin 100, atoiOk (num (n.val : Int)) = some (n.val : Int) := by decide +kernel
theorem itoa_exact (n : Int) (h0 : 0 ≤ n) (h1 : n < 100) : (⟨(Lib.itoa n).toArray⟩ : ByteArray) = num n := by
  obtain ⟨m, rfl⟩ := Int.eq_ofNat_of_zero_le h0
  unfold num Lib.itoa
  rw [← dec_small _ (by omega)]
  simp
theorem number_exact (n most : Int) (h0 : 0 ≤ n) (h1 : n ≤ most) (h2 : n < 100) : impl_number.f (num n) most = some (n, true) := by
  have hz := num_size n
  obtain ⟨m, rfl⟩ := Int.eq_ofNat_of_zero_le h0
  have hA := atoi_exact ⟨m, by omega⟩
  simp only at hA
  have hN : numOk (num (m : Int)) most = some (m : Int) := by
    unfold numOk
    rw [hA, Option.bind_some, if_pos ⟨itoa_exact _ h0 h2, h0, h1⟩]
  unfold impl_number.f
  rw [if_pos (by omega), hN]
theorem good_fin {a b : Int} (h : good a b = true) : ∃ x y : Fin 12, a = (x.val : Int) + 1 ∧ b = (y.val : Int) + 1 := by
  have hg := good_in h
  exact ⟨⟨(a - 1).toNat, by omega⟩, ⟨(b - 1).toNat, by omega⟩, by simp only []; omega, by simp only []; omega⟩
theorem spec_ex {a b : Int} (h : good a b = true) : Ev (fun k => spec_ParseBar.f k (T a b)) (a, b, true) := by
  obtain ⟨x, y, rfl, rfl⟩ := good_fin h
  exact Ev.of (fun k => spec_ParseBar.mono _ k) (k := 20) (spec_exact x y)
theorem T_size (a b : Int) : (T a b).size ≤ 5 := by
  have h1 := num_size a
  have h2 := num_size b
  have h3 : x_.size = 1 := rfl
  unfold T
  rw [ByteArray.size_append, ByteArray.size_append]
  omega
theorem impl_ex {a b : Int} (h : good a b = true) : Ev (fun k => impl_ParseBar.f k (T a b)) (a, b, true) := by
  have hg := good_in h
  have hsz := T_size a b
  have hf : Lib.goFieldsP (isSign ⟨#[120]⟩) (T a b) = [num a, num b] := by
    obtain ⟨x, y, rfl, rfl⟩ := good_fin h
    exact fields_exact x y
  have hF : strings_FieldsFunc.f (T a b) ⟨#[120]⟩ = some [num a, num b] := by unfold strings_FieldsFunc.f; rw [if_pos ⟨by omega, Or.inl rfl⟩, hf]
  have ha := number_exact a 12 (by omega) (by omega) (by omega)
  have hb := number_exact b 12 (by omega) (by omega) (by omega)
  have hn : Ev (fun k => impl_numbers.f k (T a b) ⟨#[120]⟩ 12) ([a, b], true) := by
    simp only [impl_numbers.f, hF, Option.bind_some]
    refine Ev.step (f := fun k => impl_numbers.l0 k 12 [a] [num a, num b] 2 1) (fun k => ?_) (Ev.step (f := fun k => impl_numbers.l0 k 12 [a, b] [num a, num b] 2 2) (fun k => ?_) (Ev.step (f := fun k => some ([a, b], true)) (fun k => ?_) (Ev.now _)))
    · simp only [impl_numbers.l0]
      simp [rdOf, ha, wrap64]
    · simp only [impl_numbers.l0]
      simp [rdOf, hb, wrap64]
    · simp only [impl_numbers.l0]
      simp
  simp only [impl_ParseBar.f]
  refine Ev.bind hn (pos rfl ?_)
  refine Ev.step (f := fun _ => some (a, b, true)) (fun k => ?_) (Ev.now _)
  simp only [impl_ParseBar.j0]
  simp [rd, impl_good, h, impl_t h]
theorem eq_ok (a b : Int) : laws_eqBar.f a b a b = some true := by
  unfold laws_eqBar.f
  simp
theorem pure (s : ByteArray) : ∃ k, laws_FnExactParseBar.f k s = some true := by
  have main : Ev (fun k => laws_FnExactParseBar.f k s) true := by
    simp only [laws_FnExactParseBar.f]
    by_cases hs : (s.size : Int) > 1048576
    · exact pos hs (Ev.now _)
    · refine neg hs ?_
      have both : ∃ a b c, Ev (fun k => spec_ParseBar.f k s) (a, b, c) ∧ Ev (fun k => impl_ParseBar.f k s) (a, b, c) := by
        obtain ⟨r1, h1, e1⟩ := spec_ans s (by omega)
        obtain ⟨r2, h2, e2⟩ := impl_ans s (by omega)
        rcases h1 with rfl | ⟨a, b, hg, hT, rfl⟩
        · rcases h2 with rfl | ⟨a, b, hg, hT, rfl⟩
          · exact ⟨0, 0, false, e1, e2⟩
          · subst hT
            have := both e1 (spec_ex hg)
            simp at this
        · subst hT
          exact ⟨a, b, true, e1, impl_ex hg⟩
      obtain ⟨a, b, c, e1, e2⟩ := both
      refine Ev.bind e1 (Ev.bind e2 ?_)
      simp only [eq_ok, Option.bind_some, if_true]
      cases c <;> exact Ev.now _
  exact Ev.rounds main
end Go.Proofs.YtanagjgdklikbaaDoor.PureP
