/- What the printed readers answer at any text: l1Split, l1Read and numbers always answer. Conditions: texts of at most 2^20 letters. -/
import Derived.Test.YtanagjgdklikbaaDoorAx2
import Derived.Test.YtanagjgdklikbaaDoorAx12
import Derived.Test.YtanagjgdklikbaaDoorPEv
import Derived.Lib.FieldsP
namespace Go.Proofs.YtanagjgdklikbaaDoor.PTot
open Go.RowKit Go.Proofs.YtanagjgdklikbaaDoor.All Go.Proofs.YtanagjgdklikbaaDoorW.PrintWords Go.Proofs.YtanagjgdklikbaaDoorW.PrintLast Go.Proofs.YtanagjgdklikbaaDoor.PEv
set_option linter.unusedSimpArgs false
set_option linter.unusedVariables false

theorem split_go (s : ByteArray) (b : Int) (hs : s.size ≤ 1048576) : ∀ (d i j : Nat) (acc : List ByteArray), i ≤ s.size → s.size - i = d → j ≤ i → acc.length ≤ i →
    ∃ l, Ev (fun k => spec_l1Split.l0 k s b acc (j : Int) (i : Int)) l := by
  intro d
  induction d with
  | zero =>
    intro i j acc h1 h2 h3 h4
    refine ⟨acc ++ [s.extract ((j : Int)).toNat s.size], Ev.step (f := fun _ => some (acc ++ [s.extract ((j : Int)).toNat s.size])) (fun k => ?_) (Ev.now _)⟩
    simp only [spec_l1Split.l0]
    rw [if_neg (by omega), if_pos (by omega), if_pos (by omega), if_pos (by omega)]
  | succ d ih =>
    intro i j acc h1 h2 h3 h4
    have hw2 : wrap64 ((i : Int) + 1) = ((i + 1 : Nat) : Int) := by rw [wrap_in (x := (i : Int) + 1) (by omega) (by omega)]; omega
    have HW := Aside0.mk hw2
    clear hw2
    by_cases hb : bt s (i : Int) = b
    · have HB := Aside0.mk hb
      clear hb
      obtain ⟨l, hl⟩ := ih (i + 1) (i + 1) (acc ++ [s.extract ((j : Int)).toNat ((i : Int)).toNat]) (by omega) (by omega) (by omega) (by simp; omega)
      refine ⟨l, Ev.step (f := fun k => spec_l1Split.l0 k s b (acc ++ [s.extract ((j : Int)).toNat ((i : Int)).toNat]) ((i + 1 : Nat) : Int) ((i + 1 : Nat) : Int)) (fun k => ?_) hl⟩
      simp only [spec_l1Split.l0]
      rw [if_pos (by omega), if_pos (by omega), if_pos HB.out, if_pos (by omega), if_pos (by omega), if_pos (by omega), if_pos (by omega), HW.out]
    · have HB := Aside0.mk hb
      clear hb
      obtain ⟨l, hl⟩ := ih (i + 1) j acc (by omega) (by omega) (by omega) (by omega)
      refine ⟨l, Ev.step (f := fun k => spec_l1Split.l0 k s b acc (j : Int) ((i + 1 : Nat) : Int)) (fun k => ?_) hl⟩
      simp only [spec_l1Split.l0]
      rw [if_pos (by omega), if_pos (by omega), if_neg HB.out, HW.out]
theorem split_ev (s : ByteArray) (b : Int) (hs : s.size ≤ 1048576) : ∃ l, Ev (fun k => spec_l1Split.f k s b) l := by
  obtain ⟨l, hl⟩ := split_go s b hs s.size 0 0 [] (by omega) (by omega) (by omega) (by simp)
  exact ⟨l, Ev.congr (fun k => rfl) hl⟩

theorem read_go (s : ByteArray) (hs : s.size ≤ 6) : ∀ (d i : Nat) (x : Int), i ≤ s.size → s.size - i = d → ∃ v, Ev (fun k => spec_l1Read.l0 k s x (i : Int)) v := by
  intro d
  induction d with
  | zero =>
    intro i x h1 h2
    refine ⟨x, Ev.step (f := fun _ => some x) (fun k => ?_) (Ev.now _)⟩
    simp only [spec_l1Read.l0]
    rw [if_neg (by omega)]
  | succ d ih =>
    intro i x h1 h2
    have hw2 : wrap64 ((i : Int) + 1) = ((i + 1 : Nat) : Int) := by rw [wrap_in (x := (i : Int) + 1) (by omega) (by omega)]; omega
    have HW := Aside0.mk hw2
    clear hw2
    by_cases c1 : bt s (i : Int) < 48
    · refine ⟨-1, Ev.step (f := fun _ => some (-1)) (fun k => ?_) (Ev.now _)⟩
      simp only [spec_l1Read.l0]
      rw [if_pos (by omega), if_pos (by omega), if_pos c1]
    · by_cases c2 : bt s (i : Int) > 57
      · refine ⟨-1, Ev.step (f := fun _ => some (-1)) (fun k => ?_) (Ev.now _)⟩
        simp only [spec_l1Read.l0]
        rw [if_pos (by omega), if_pos (by omega), if_neg c1, if_pos c2]
      · have C1 := Aside0.mk c1
        have C2 := Aside0.mk c2
        clear c1 c2
        obtain ⟨v, hv⟩ := ih (i + 1) (wrap64 ((wrap64 (10 * x)) + (((bt s (i : Int)) - 48) % 256))) (by omega) (by omega)
        refine ⟨v, Ev.step (f := fun k => spec_l1Read.l0 k s (wrap64 ((wrap64 (10 * x)) + (((bt s (i : Int)) - 48) % 256))) ((i + 1 : Nat) : Int)) (fun k => ?_) hv⟩
        simp only [spec_l1Read.l0]
        rw [if_pos (by omega), if_pos (by omega), if_neg C1.out, if_neg C2.out, HW.out]
theorem in_eq (a lo hi : Int) : spec_l1In.f a lo hi = some (decide (lo ≤ a ∧ a ≤ hi)) := by
  unfold spec_l1In.f
  split <;> simp <;> omega
theorem readj_ev (s : ByteArray) (c : Bool) (hs : c = false → s.size ≤ 6) : ∃ v, Ev (fun k => spec_l1Read.j0 k s c) v := by
  cases c with
  | true =>
    refine ⟨-1, Ev.step (f := fun _ => some (-1)) (fun k => ?_) (Ev.now _)⟩
    simp [spec_l1Read.j0]
  | false =>
    obtain ⟨v, hv⟩ := read_go s (hs rfl) s.size 0 0 (by omega) (by omega)
    refine ⟨v, Ev.step (f := fun k => spec_l1Read.l0 k s 0 0) (fun k => ?_) hv⟩
    simp [spec_l1Read.j0]
theorem read_ev (s : ByteArray) : ∃ v, Ev (fun k => spec_l1Read.f k s) v := by
  simp only [spec_l1Read.f, in_eq, Option.bind_some]
  by_cases h : 1 ≤ (s.size : Int) ∧ (s.size : Int) ≤ 6
  · rw [decide_eq_true h]
    by_cases hb : bt s 0 = 48
    · obtain ⟨v, hv⟩ := readj_ev s (decide ((s.size : Int) > 1)) (fun _ => by omega)
      exact ⟨v, pos rfl (pos (by omega) (pos hb hv))⟩
    · obtain ⟨v, hv⟩ := readj_ev s false (fun _ => by omega)
      exact ⟨v, pos rfl (pos (by omega) (neg hb hv))⟩
  · rw [decide_eq_false h]
    obtain ⟨v, hv⟩ := readj_ev s true (fun e => by cases e)
    exact ⟨v, neg (by decide) hv⟩

theorem numbers_go (most : Int) (ws : List ByteArray) (hl : ws.length ≤ 2097152) (hw : ∀ x ∈ ws, x.size ≤ 1048576) : ∀ (d i : Nat) (acc : List Int), i ≤ ws.length → ws.length - i = d → acc.length ≤ i →
    ∃ r, Ev (fun k => impl_numbers.l0 k most acc ws (ws.length : Int) (i : Int)) r := by
  intro d
  induction d with
  | zero =>
    intro i acc h1 h2 h3
    refine ⟨(acc, true), Ev.step (f := fun _ => some (acc, true)) (fun k => ?_) (Ev.now _)⟩
    simp only [impl_numbers.l0]
    rw [if_neg (by omega)]
  | succ d ih =>
    intro i acc h1 h2 h3
    have hi : i < ws.length := by omega
    have er : rdOf ByteArray.empty ws (i : Int) = ws[i] := by simp [rdOf, List.getD_eq_getElem?_getD, hi]
    have hw2 : wrap64 ((i : Int) + 1) = ((i + 1 : Nat) : Int) := by rw [wrap_in (x := (i : Int) + 1) (by omega) (by omega)]; omega
    have hsz := hw ws[i] (List.getElem_mem hi)
    have HW := Aside0.mk hw2
    have ER := Aside0.mk er
    clear hw2 er
    cases hN : numOk ws[i] most with
    | none =>
      have hf : impl_number.f ws[i] most = some (0, false) := by unfold impl_number.f; rw [if_pos (by omega), hN]
      have HF := Aside0.mk hf
      clear hf
      refine ⟨([], false), Ev.step (f := fun _ => some ([], false)) (fun k => ?_) (Ev.now _)⟩
      simp only [impl_numbers.l0]
      rw [if_pos (by omega), if_pos (by omega), if_pos (by omega), ER.out, HF.out, Option.bind_some, if_neg (by decide)]
    | some v =>
      have hf : impl_number.f ws[i] most = some (v, true) := by unfold impl_number.f; rw [if_pos (by omega), hN]
      have HF := Aside0.mk hf
      clear hf
      obtain ⟨r, hr⟩ := ih (i + 1) (acc ++ [v]) (by omega) (by omega) (by simp; omega)
      refine ⟨r, Ev.step (f := fun k => impl_numbers.l0 k most (acc ++ [v]) ws (ws.length : Int) ((i + 1 : Nat) : Int)) (fun k => ?_) hr⟩
      simp only [impl_numbers.l0]
      rw [if_pos (by omega), if_pos (by omega), if_pos (by omega), ER.out, HF.out, Option.bind_some, if_pos rfl, if_pos (by omega), HW.out]
theorem spans_len (p : Nat → Bool) (s : ByteArray) : ∀ (f pos : Nat) (st : Option Nat) (acc : List (Nat × Nat)), (Lib.spansFromP p s f pos st acc).1.length ≤ acc.length + f := by
  intro f
  induction f with
  | zero => intro pos st acc; simp [Lib.spansFromP]
  | succ f ih =>
    intro pos st acc
    unfold Lib.spansFromP
    split
    · split <;> cases st <;> simp only []
      · have := ih (pos + (Utf8.decode s pos).2) none acc; omega
      · rename_i a
        have := ih (pos + (Utf8.decode s pos).2) none (acc ++ [(a, pos)])
        simp only [List.length_append, List.length_cons, List.length_nil] at this
        omega
      · have := ih (pos + (Utf8.decode s pos).2) (some pos) acc; omega
      · rename_i a
        have := ih (pos + (Utf8.decode s pos).2) (some a) acc; omega
    · simp
theorem fields_len (p : Nat → Bool) (s : ByteArray) : (Lib.goFieldsP p s).length ≤ s.size + 1 := by
  have h := spans_len p s s.size 0 none []
  unfold Lib.goFieldsP Lib.spansOfP Lib.closeSpans
  rw [List.length_map]
  simp only [List.length_nil] at h
  split
  · simp only [List.length_append, List.length_cons, List.length_nil]; omega
  · omega
theorem fields_sz (p : Nat → Bool) (s : ByteArray) : ∀ x ∈ Lib.goFieldsP p s, x.size ≤ s.size := by
  intro x hx
  unfold Lib.goFieldsP at hx
  obtain ⟨y, -, rfl⟩ := List.mem_map.1 hx
  simp [ByteArray.size_extract]
  omega
theorem numbers_ev (s sg : ByteArray) (most : Int) (hs : s.size ≤ 1048576) (h1 : sg = ⟨#[120]⟩ ∨ sg = ⟨#[42]⟩) : ∃ r, Ev (fun k => impl_numbers.f k s sg most) r := by
  have hF : strings_FieldsFunc.f s sg = some (Lib.goFieldsP (isSign sg) s) := by unfold strings_FieldsFunc.f; exact if_pos ⟨by omega, h1⟩
  have hlen := fields_len (isSign sg) s
  obtain ⟨r, hr⟩ := numbers_go most (Lib.goFieldsP (isSign sg) s) (by omega) (fun x hx => Nat.le_trans (fields_sz _ _ x hx) hs) _ 0 [] (Nat.zero_le _) rfl (by simp)
  refine ⟨r, ?_⟩
  simp only [impl_numbers.f, hF, Option.bind_some]
  exact hr
end Go.Proofs.YtanagjgdklikbaaDoor.PTot
