/- The law FnExactParseBox answers true: both readers accept just the texts of boxes. Conditions: none beyond the law's own. -/
import Derived.Test.YtanagjgdklikbaaDoorAx18
import Derived.Test.YtanagjgdklikbaaDoorPTot
import Derived.Test.YtanagjgdklikbaaDoorPText
import Derived.Test.YtanagjgdklikbaaDoorPCutB
namespace Go.Proofs.YtanagjgdklikbaaDoor.PureB
open Go.RowKit Go.Proofs.YtanagjgdklikbaaDoor.All Go.Proofs.YtanagjgdklikbaaDoorW.PrintWords Go.Proofs.YtanagjgdklikbaaDoorW.PrintLast Go.Proofs.YtanagjgdklikbaaDoor.PEv Go.Proofs.YtanagjgdklikbaaDoor.PText Go.Proofs.YtanagjgdklikbaaDoor.PTot
set_option linter.unusedSimpArgs false
set_option linter.unusedVariables false
theorem within_eq (a lo hi : Int) : impl_within.f a lo hi = some (decide (lo ≤ a ∧ a ≤ hi)) := by
  unfold impl_within.f
  split <;> simp <;> omega
def good (a b c : Int) : Bool := decide ((1 ≤ c ∧ c ≤ b) ∧ b ≤ a ∧ a ≤ 60)
theorem spec_good (a b c : Int) : spec_wrGood.f a b c = some (good a b c) := by
  unfold spec_wrGood.f good
  rw [in_eq, in_eq, in_eq]
  simp only [Option.bind_some, decide_eq_true_eq]
  split
  · split
    · congr 1
      rw [decide_eq_decide]
      omega
    · congr 1
      symm
      rw [decide_eq_false_iff_not]
      omega
  · congr 1
    symm
    rw [decide_eq_false_iff_not]
    omega
theorem impl_good (a b c : Int) : impl_IsBox.f a b c = some (good a b c) := by
  unfold impl_IsBox.f good
  rw [within_eq]
  simp only [Option.bind_some, decide_eq_true_eq]
  split
  · split
    · congr 1
      rw [decide_eq_decide]
      omega
    · congr 1
      symm
      rw [decide_eq_false_iff_not]
      omega
  · congr 1
    symm
    rw [decide_eq_false_iff_not]
    omega
def x_ : ByteArray := ⟨#[42]⟩
def T (a b c : Int) : ByteArray := (((num a ++ x_) ++ num b) ++ x_) ++ num c
theorem sz (a b c : Int) : (num a).size + 1 ≤ 9223372036854775807 ∧ (num a ++ x_).size + (num b).size ≤ 9223372036854775807 ∧ ((num a ++ x_) ++ num b).size + 1 ≤ 9223372036854775807 ∧ (((num a ++ x_) ++ num b) ++ x_).size + (num c).size ≤ 9223372036854775807 := by
  have h1 := num_size a
  have h2 := num_size b
  have h3 := num_size c
  have h4 : x_.size = 1 := rfl
  simp only [ByteArray.size_append]
  omega
theorem good_in {a b c : Int} (h : good a b c = true) : (1 ≤ c ∧ c ≤ b) ∧ b ≤ a ∧ a ≤ 60 := by
  unfold good at h
  simpa using h
theorem spec_t {a b c : Int} (h : good a b c = true) : Ev (fun k => spec_wrText.f k a b c) (T a b c) := by
  have hg := good_in h
  have hz := sz a b c
  simp only [spec_wrText.f]
  refine Ev.bind (num_ev a (by omega) (by omega)) (pos hz.1 ?_)
  refine Ev.bind (num_ev b (by omega) (by omega)) (pos hz.2.1 (pos hz.2.2.1 ?_))
  exact Ev.bind (num_ev c (by omega) (by omega)) (pos hz.2.2.2 (Ev.now _))
theorem data_app (a b : ByteArray) : (a ++ b).data.toList = a.data.toList ++ b.data.toList := by
  obtain ⟨a⟩ := a
  obtain ⟨b⟩ := b
  rw [ByteArray.mk_append_mk]
theorem T_eq (a b c : Int) : txt [a, b, c] x_ = T a b c := by
  apply bytes_ext
  rw [txt_data]
  unfold T
  simp only [data_app, List.map_cons, List.map_nil, Lib.join_cons, Lib.joinTail, List.flatten_cons, List.flatten_nil, List.append_nil, num, List.append_assoc]
theorem impl_t {a b c : Int} (h : good a b c = true) : Ev (fun k => impl_Box_text.f k a b c) (T a b c) := by
  have hg := good_in h
  simp only [impl_Box_text.f]
  refine Ev.bind (a := txt [a, b, c] x_) (joined_ev [a, b, c] x_ (by simp) (by decide) (fun n hn => ?_)) ?_
  · simp only [List.mem_cons, List.not_mem_nil, or_false] at hn
    omega
  · rw [T_eq]
    exact Ev.now _
theorem same {a b : ByteArray} (h : a.toList = b.toList) : a = b := by
  rw [ByteArray.toList_eq, ByteArray.toList_eq] at h
  exact bytes_ext h

/-- What a reader may answer: nothing, or a box with this text. -/
def Ans (s : ByteArray) (r : Int × Int × Int × Bool) : Prop := r = (0, 0, 0, false) ∨ ∃ a b c, good a b c = true ∧ T a b c = s ∧ r = (a, b, c, true)
def inner (k : Nat) (s : ByteArray) (l : List ByteArray) : Option (Int × Int × Int × Bool) :=
  (spec_l1Read.f k (rdOf ByteArray.empty l 0)).bind fun t169 => (spec_l1Read.f k (rdOf ByteArray.empty l 1)).bind fun t171 => (spec_l1Read.f k (rdOf ByteArray.empty l 2)).bind fun t173 => ((spec_wrGood.f t169 t171 t173).bind fun t175 => (if t175 = true then ((spec_wrText.f k t169 t171 t173).bind fun t176 => (some (t169, t171, t173, (t176.toList == s.toList)))) else (some (t169, t171, t173, false))))
theorem j0_eq (k : Nat) (s : ByteArray) (l : List ByteArray) (h2 : l.length = 3) : spec_wrParse.j0 (k + 1) s l false = inner k s l := by
  unfold inner
  simp only [spec_wrParse.j0]
  rw [if_neg (by decide), if_pos (by omega)]
  simp only [show (1 : Int) < (l.length : Int) by omega, show (2 : Int) < (l.length : Int) by omega, if_true]

theorem spec_ans (s : ByteArray) (hs : s.size ≤ 1048576) : ∃ r, Ans s r ∧ Ev (fun k => spec_ParseBox.f k s) r := by
  have hP : ∃ q : Int × Int × Int × Bool, (q.2.2.2 = true → good q.1 q.2.1 q.2.2.1 = true ∧ T q.1 q.2.1 q.2.2.1 = s) ∧ Ev (fun k => spec_wrParse.f k s) q := by
    obtain ⟨l, hl⟩ := split_ev s 42 hs
    have hj : ∀ c : Bool, (c = false → l.length = 3) → ∃ q : Int × Int × Int × Bool, (q.2.2.2 = true → good q.1 q.2.1 q.2.2.1 = true ∧ T q.1 q.2.1 q.2.2.1 = s) ∧ Ev (fun k => spec_wrParse.j0 k s l c) q := by
      intro c hc
      cases c with
      | true =>
        refine ⟨(0, 0, 0, false), (fun h => by cases h), Ev.step (f := fun _ => some (0, 0, 0, false)) (fun k => ?_) (Ev.now _)⟩
        simp [spec_wrParse.j0]
      | false =>
        have h2 := hc rfl
        obtain ⟨v0, e0⟩ := read_ev (rdOf ByteArray.empty l 0)
        obtain ⟨v1, e1⟩ := read_ev (rdOf ByteArray.empty l 1)
        obtain ⟨v2, e2⟩ := read_ev (rdOf ByteArray.empty l 2)
        cases hg : good v0 v1 v2 with
        | true =>
          refine ⟨(v0, v1, v2, ((T v0 v1 v2).toList == s.toList)), (fun h => ⟨hg, same (by simpa using h)⟩), ?_⟩
          refine Ev.step (f := fun k => inner k s l) (fun k => j0_eq k s l h2) ?_
          unfold inner
          refine Ev.bind e0 (Ev.bind e1 (Ev.bind e2 ?_))
          simp only [spec_good, Option.bind_some, hg, if_true]
          exact Ev.bind (spec_t hg) (Ev.now _)
        | false =>
          refine ⟨(v0, v1, v2, false), (fun h => by cases h), ?_⟩
          refine Ev.step (f := fun k => inner k s l) (fun k => j0_eq k s l h2) ?_
          unfold inner
          refine Ev.bind e0 (Ev.bind e1 (Ev.bind e2 ?_))
          simp only [spec_good, Option.bind_some, hg, if_true]
          exact Ev.now _
    by_cases h5 : (s.size : Int) > 8
    · obtain ⟨q, hq, he⟩ := hj true (fun e => by cases e)
      refine ⟨q, hq, ?_⟩
      simp only [spec_wrParse.f]
      exact Ev.bind hl (pos h5 he)
    · obtain ⟨q, hq, he⟩ := hj ((l.length : Int) != 3) (fun e => by simp at e; omega)
      refine ⟨q, hq, ?_⟩
      simp only [spec_wrParse.f]
      exact Ev.bind hl (neg h5 he)
  obtain ⟨⟨a, b, c, d⟩, hq, he⟩ := hP
  cases d with
  | true =>
    obtain ⟨h1, h2⟩ := hq rfl
    refine ⟨(a, b, c, true), Or.inr ⟨a, b, c, h1, h2, rfl⟩, ?_⟩
    simp only [spec_ParseBox.f]
    exact Ev.bind he (pos rfl (Ev.now _))
  | false =>
    refine ⟨(0, 0, 0, false), Or.inl rfl, ?_⟩
    simp only [spec_ParseBox.f]
    exact Ev.bind he (neg (by simp) (Ev.now _))

def innerI (k : Nat) (s : ByteArray) (a b c : Int) : Option (Int × Int × Int × Bool) :=
  (impl_IsBox.f a b c).bind fun t239 => (if t239 = true then ((impl_Box_text.f k a b c).bind fun t240 => (if t240.toList = s.toList then (some (a, b, c, true)) else (some (0, 0, 0, false)))) else (some (0, 0, 0, false)))
theorem i0_eq (k : Nat) (s : ByteArray) (l : List Int) (h2 : l.length = 3) : impl_ParseBox.j0 (k + 1) s l false = innerI k s (rd l 0) (rd l 1) (rd l 2) := by
  unfold innerI
  simp only [impl_ParseBox.j0]
  rw [if_neg (by decide), if_pos (by omega), if_pos (by omega), if_pos (by omega)]
theorem impl_ans (s : ByteArray) (hs : s.size ≤ 1048576) : ∃ r, Ans s r ∧ Ev (fun k => impl_ParseBox.f k s) r := by
  obtain ⟨⟨l, ok⟩, hl⟩ := numbers_ev s ⟨#[42]⟩ 60 hs (Or.inr rfl)
  have hj : ∀ c : Bool, (c = false → l.length = 3) → ∃ r, Ans s r ∧ Ev (fun k => impl_ParseBox.j0 k s l c) r := by
    intro c hc
    cases c with
    | true =>
      refine ⟨(0, 0, 0, false), Or.inl rfl, Ev.step (f := fun _ => some (0, 0, 0, false)) (fun k => ?_) (Ev.now _)⟩
      simp [impl_ParseBox.j0]
    | false =>
      have h2 := hc rfl
      have key : ∃ r, Ans s r ∧ Ev (fun k => innerI k s (rd l 0) (rd l 1) (rd l 2)) r := by
        cases hg : good (rd l 0) (rd l 1) (rd l 2) with
        | false =>
          refine ⟨(0, 0, 0, false), Or.inl rfl, ?_⟩
          simp only [innerI, impl_good, hg, Option.bind_some]
          exact neg (by decide) (Ev.now _)
        | true =>
          by_cases ht : (T (rd l 0) (rd l 1) (rd l 2)).toList = s.toList
          · refine ⟨(rd l 0, rd l 1, rd l 2, true), Or.inr ⟨_, _, _, hg, same ht, rfl⟩, ?_⟩
            simp only [innerI, impl_good, hg, Option.bind_some]
            exact pos trivial (Ev.bind (impl_t hg) (pos ht (Ev.now _)))
          · refine ⟨(0, 0, 0, false), Or.inl rfl, ?_⟩
            simp only [innerI, impl_good, hg, Option.bind_some]
            exact pos trivial (Ev.bind (impl_t hg) (neg ht (Ev.now _)))
      obtain ⟨r, hr, he⟩ := key
      exact ⟨r, hr, Ev.step (fun k => i0_eq k s l h2) he⟩
  cases ok with
  | true =>
    obtain ⟨r, hr, he⟩ := hj ((l.length : Int) != 3) (fun e => by simp at e; omega)
    refine ⟨r, hr, ?_⟩
    simp only [impl_ParseBox.f]
    exact Ev.bind hl (pos rfl he)
  | false =>
    obtain ⟨r, hr, he⟩ := hj true (fun e => by cases e)
    refine ⟨r, hr, ?_⟩
    simp only [impl_ParseBox.f]
    exact Ev.bind hl (neg (by simp) he)

theorem read_exact : ∀ n : Fin 100, spec_l1Read.f 10 (num (n.val : Int)) = some (n.val : Int) := by decide +kernel
theorem read_num (n : Int) (h0 : 0 ≤ n) (h1 : n < 100) : Ev (fun k => spec_l1Read.f k (num n)) n := by
  obtain ⟨m, rfl⟩ := Int.eq_ofNat_of_zero_le h0
  exact Ev.of (fun k => spec_l1Read.mono _ k) (k := 10) (read_exact ⟨m, by omega⟩)
theorem T_size (a b c : Int) : (T a b c).size ≤ 8 := by
  have h1 := num_size a
  have h2 := num_size b
  have h4 := num_size c
  have h3 : x_.size = 1 := rfl
  unfold T
  simp only [ByteArray.size_append]
  omega
theorem spec_ex {a b c : Int} (h : good a b c = true) : Ev (fun k => spec_ParseBox.f k (T a b c)) (a, b, c, true) := by
  have hg := good_in h
  have hsz := T_size a b c
  have hl : Ev (fun k => spec_l1Split.f k (T a b c) 42) [num a, num b, num c] := (PCut.cut3 a b c (by omega) (by omega) (by omega)).1
  have hp : Ev (fun k => spec_wrParse.f k (T a b c)) (a, b, c, true) := by
    simp only [spec_wrParse.f]
    refine Ev.bind hl (neg (by omega) ?_)
    refine Ev.step (f := fun k => inner k (T a b c) [num a, num b, num c]) (fun k => j0_eq k _ _ rfl) ?_
    unfold inner
    refine Ev.bind (read_num a (by omega) (by omega)) (Ev.bind (read_num b (by omega) (by omega)) (Ev.bind (read_num c (by omega) (by omega)) ?_))
    simp only [spec_good, Option.bind_some, h, if_true]
    refine Ev.bind (spec_t h) ?_
    simp only [beq_self_eq_true]
    exact Ev.now _
  simp only [spec_ParseBox.f]
  exact Ev.bind hp (pos rfl (Ev.now _))
theorem atoi_exact : ∀ n : Fin 100, atoiOk (num (n.val : Int)) = some (n.val : Int) := by decide +kernel
theorem itoa_exact (n : Int) (h0 : 0 ≤ n) (h1 : n < 100) : (⟨(Lib.itoa n).toArray⟩ : ByteArray) = num n := by
  obtain ⟨m, rfl⟩ := Int.eq_ofNat_of_zero_le h0
  unfold num Lib.itoa
  rw [← dec_small _ (by omega)]
  simp
theorem number_exact (n most : Int) (h0 : 0 ≤ n) (h1 : n ≤ most) (h2 : n < 100) : impl_number.f (num n) most = some (n, true) := by
  have hz := num_size n
  obtain ⟨m, rfl⟩ := Int.eq_ofNat_of_zero_le h0
  have hA := atoi_exact ⟨m, by omega⟩
  simp only at hA
  have hN : numOk (num (m : Int)) most = some (m : Int) := by
    unfold numOk
    rw [hA, Option.bind_some, if_pos ⟨itoa_exact _ h0 h2, h0, h1⟩]
  unfold impl_number.f
  rw [if_pos (by omega), hN]
theorem impl_ex {a b c : Int} (h : good a b c = true) : Ev (fun k => impl_ParseBox.f k (T a b c)) (a, b, c, true) := by
  have hg := good_in h
  have hsz := T_size a b c
  have hf : Lib.goFieldsP (isSign ⟨#[42]⟩) (T a b c) = [num a, num b, num c] := (PCut.cut3 a b c (by omega) (by omega) (by omega)).2
  have hF : strings_FieldsFunc.f (T a b c) ⟨#[42]⟩ = some [num a, num b, num c] := by unfold strings_FieldsFunc.f; rw [if_pos ⟨by omega, Or.inr rfl⟩, hf]
  have ha := number_exact a 60 (by omega) (by omega) (by omega)
  have hb := number_exact b 60 (by omega) (by omega) (by omega)
  have hc := number_exact c 60 (by omega) (by omega) (by omega)
  have hn : Ev (fun k => impl_numbers.f k (T a b c) ⟨#[42]⟩ 60) ([a, b, c], true) := by
    simp only [impl_numbers.f, hF, Option.bind_some]
    refine Ev.step (f := fun k => impl_numbers.l0 k 60 [a] [num a, num b, num c] 3 1) (fun k => ?_) (Ev.step (f := fun k => impl_numbers.l0 k 60 [a, b] [num a, num b, num c] 3 2) (fun k => ?_) (Ev.step (f := fun k => impl_numbers.l0 k 60 [a, b, c] [num a, num b, num c] 3 3) (fun k => ?_) (Ev.step (f := fun k => some ([a, b, c], true)) (fun k => ?_) (Ev.now _))))
    · simp only [impl_numbers.l0]
      simp [rdOf, ha, wrap64]
    · simp only [impl_numbers.l0]
      simp [rdOf, hb, wrap64]
    · simp only [impl_numbers.l0]
      simp [rdOf, hc, wrap64]
    · simp only [impl_numbers.l0]
      simp
  simp only [impl_ParseBox.f]
  refine Ev.bind hn (pos rfl ?_)
  refine Ev.step (f := fun k => innerI k (T a b c) a b c) (fun k => i0_eq k _ [a, b, c] rfl) ?_
  simp only [innerI, impl_good, h, Option.bind_some]
  exact pos trivial (Ev.bind (impl_t h) (pos rfl (Ev.now _)))
theorem eq_ok (a b c : Int) : laws_eqBox.f a b c a b c = some true := by
  unfold laws_eqBox.f
  simp
theorem pure (s : ByteArray) : ∃ k, laws_FnExactParseBox.f k s = some true := by
  have main : Ev (fun k => laws_FnExactParseBox.f k s) true := by
    simp only [laws_FnExactParseBox.f]
    by_cases hs : (s.size : Int) > 1048576
    · exact pos hs (Ev.now _)
    · refine neg hs ?_
      have both : ∃ a b c d, Ev (fun k => spec_ParseBox.f k s) (a, b, c, d) ∧ Ev (fun k => impl_ParseBox.f k s) (a, b, c, d) := by
        obtain ⟨r1, h1, e1⟩ := spec_ans s (by omega)
        obtain ⟨r2, h2, e2⟩ := impl_ans s (by omega)
        rcases h1 with rfl | ⟨a, b, c, hg, hT, rfl⟩
        · rcases h2 with rfl | ⟨a, b, c, hg, hT, rfl⟩
          · exact ⟨0, 0, 0, false, e1, e2⟩
          · subst hT
            have := both e1 (spec_ex hg)
            simp at this
        · subst hT
          exact ⟨a, b, c, true, e1, impl_ex hg⟩
      obtain ⟨a, b, c, d, e1, e2⟩ := both
      refine Ev.bind e1 (Ev.bind e2 ?_)
      simp only [eq_ok, Option.bind_some, if_true]
      cases d <;> exact Ev.now _
  exact Ev.rounds main
end Go.Proofs.YtanagjgdklikbaaDoor.PureB
