/- CountKeptPlays of the program and of the reference answer alike. Conditions: none; this text speaks of the printed Lean functions alone. -/
import Derived.Test.YtoplnaobaedciaaPKept
import Derived.Test.YtoplnaobaedciaaGCount
import Derived.Test.YtoplnaobaedciaaAx10
import Derived.Test.YtoplnaobaedciaaAx3
import Derived.Test.YtoplnaobaedciaaPEv
namespace Go.Proofs.Ytoplnaobaedciaa.OwnFnExactCountKeptPlays
open Go.RowKit Go.Proofs.Ytoplnaobaedciaa.All Go.Proofs.YtoplnaobaedciaaW.PrintWords Go.Proofs.YtoplnaobaedciaaW.PrintLast Go.Proofs.Ytoplnaobaedciaa.PKept


def J (b x y : Int) : Int := x * (b + 1) + y
theorem J_in {a b x y : Int} (hx : 0 ≤ x) (hxa : x ≤ a) (hy : 0 ≤ y) (hyb : y ≤ b) (ha : a ≤ 12) (hb : b ≤ 12) : 0 ≤ x * (b + 1) ∧ x * (b + 1) ≤ 156 ∧ 0 ≤ J b x y ∧ J b x y < (a + 1) * (b + 1) := by
  have h1 : 0 ≤ x * (b + 1) := Int.mul_nonneg hx (by omega)
  have h2 : x * (b + 1) ≤ a * (b + 1) := Int.mul_le_mul_of_nonneg_right hxa (by omega)
  have h3 : x * (b + 1) ≤ 12 * (b + 1) := Int.mul_le_mul_of_nonneg_right (by omega) (by omega)
  have h4 : (a + 1) * (b + 1) = a * (b + 1) + (b + 1) := by rw [Int.add_mul, Int.one_mul]
  unfold J
  omega
theorem J_wr {a b x y : Int} (hx : 0 ≤ x) (hxa : x ≤ a) (hy : 0 ≤ y) (hyb : y ≤ b) (ha : a ≤ 12) (hb : b ≤ 12) : wrap64 (wrap64 (x * wrap64 (b + 1)) + y) = J b x y := by
  have h := J_in hx hxa hy hyb ha hb
  unfold J
  rw [wrap_id (x := b + 1) (by omega) (by omega), wrap_id (x := x * (b + 1)) (by omega) (by omega), wrap_id (by omega) (by omega)]
theorem J_inj {b x y x' y' : Int} (hy : 0 ≤ y) (hyb : y ≤ b) (hy' : 0 ≤ y') (hyb' : y' ≤ b) (h : J b x y = J b x' y') : x = x' ∧ y = y' := by
  unfold J at h
  have hlt : ∀ {p q : Int}, p < q → p * (b + 1) + (b + 1) ≤ q * (b + 1) := by
    intro p q hpq
    have := Int.mul_le_mul_of_nonneg_right (show p + 1 ≤ q by omega) (show 0 ≤ b + 1 by omega)
    rw [Int.add_mul, Int.one_mul] at this
    exact this
  rcases Int.lt_trichotomy x x' with h1 | h1 | h1
  · have := hlt h1; omega
  · subst h1; exact ⟨rfl, by omega⟩
  · have := hlt h1; omega
theorem rd_set {T : List Int} {i j v : Int} (hj0 : 0 ≤ j) (hj : j.toNat < T.length) (hi0 : 0 ≤ i) : rd (T.set j.toNat v) i = if i = j then v else rd T i := by
  unfold rd
  rw [List.getD_eq_getElem?_getD, List.getD_eq_getElem?_getD, List.getElem?_set]
  by_cases h : i = j
  · subst h; simp [hj]
  · have : j.toNat ≠ i.toNat := by omega
    simp [h, this]

section
variable (a b : Int) (hok : ok2 a b = true)
/-- The table is right before the place (p, q). -/
def Tab (T : List Int) (p q : Int) : Prop := (T.length : Int) = (a + 1) * (b + 1) ∧ ∀ x y : Int, 1 ≤ x → x ≤ a → 1 ≤ y → y ≤ b → (x < p ∨ (x = p ∧ y < q)) → rd T (J b x y) = cnt ⟨x, y⟩
theorem Tab.write {T : List Int} {p q : Int} (ha : a ≤ 12) (hb : b ≤ 12) (h : Tab a b T p q) (hp : 1 ≤ p) (hpa : p ≤ a) (hq : 1 ≤ q) (hqb : q ≤ b) : Tab a b (T.set (J b p q).toNat (cnt ⟨p, q⟩)) p (q + 1) := by
  have hj := J_in (a := a) (b := b) (x := p) (y := q) (by omega) hpa (by omega) hqb ha hb
  refine ⟨by rw [List.length_set]; exact h.1, fun x y h1 h2 h3 h4 h5 => ?_⟩
  have hj2 := J_in (a := a) (b := b) (x := x) (y := y) (by omega) h2 (by omega) h4 ha hb
  have hl := h.1
  rw [rd_set hj.2.2.1 (by omega) hj2.2.2.1]
  by_cases e : J b x y = J b p q
  · obtain ⟨rfl, rfl⟩ := J_inj (by omega) h4 (by omega) hqb e
    rw [if_pos rfl]
  · rw [if_neg e]
    refine h.2 x y h1 h2 h3 h4 ?_
    rcases h5 with h5 | ⟨h5, h6⟩
    · exact .inl h5
    · by_cases e2 : y = q
      · exact absurd (by rw [h5, e2]) e
      · exact .inr ⟨h5, by omega⟩
/-- What the reference answers. -/
def res : Int × Bool := if cnt ⟨a, b⟩ > 1000000000000000 then (0, false) else (cnt ⟨a, b⟩, true)
include hok
theorem l2_ev (T : List Int) (p q : Int) (hT : Tab a b T p q) (hp : 1 ≤ p) (hpa : p ≤ a) (hq : 1 ≤ q) (hqb : q ≤ b)
    (n0 : Int) (hn0 : 0 ≤ n0 ∧ n0 ≤ 1) (hn : (keptL p q).foldl (fun acc y => All.step acc (cnt y)) n0 = cnt ⟨p, q⟩)
    (hnext : Ev (fun k => spec_CountKeptPlays.l1 k (T.set (J b p q).toNat (cnt ⟨p, q⟩)) p (q + 1) a b) (res a b)) :
    ∀ (d i : Nat), i ≤ (keptL p q).length → (keptL p q).length - i = d → Ev (fun k => spec_CountKeptPlays.l2 k T p q (((keptL p q).take i).foldl (fun acc y => All.step acc (cnt y)) n0) (keptL p q) ((keptL p q).length : Int) (i : Int) a b) (res a b) := by
  have hk := ok2_le hok
  have hlen := keptL_length p q (by omega) (by omega)
  have hmem : ∀ y ∈ keptL p q, (1 ≤ y.f0 ∧ y.f0 ≤ a ∧ 1 ≤ y.f1 ∧ y.f1 ≤ b) ∧ (y.f0 < p ∨ (y.f0 = p ∧ y.f1 < q)) := by
    intro y hy
    rcases List.mem_append.1 hy with hy | hy
    · obtain ⟨j, h1, h2, rfl⟩ := seg_in hy
      exact ⟨by simp only; omega, .inl (by simp only; omega)⟩
    · obtain ⟨j, h1, h2, rfl⟩ := seg_in hy
      exact ⟨by simp only; omega, .inr ⟨rfl, by simp only; omega⟩⟩
  have hj := J_in (a := a) (b := b) (x := p) (y := q) (by omega) hpa (by omega) hqb (by omega) (by omega)
  have hjw := J_wr (a := a) (b := b) (x := p) (y := q) (by omega) hpa (by omega) hqb (by omega) (by omega)
  have hl := hT.1
  intro d
  induction d with
  | zero =>
    intro i h1 h2
    obtain rfl : i = (keptL p q).length := by omega
    rw [List.take_length, hn]
    refine Ev.step (f := fun k => spec_CountKeptPlays.l1 k (T.set (J b p q).toNat (cnt ⟨p, q⟩)) p (q + 1) a b) (fun k => ?_) hnext
    simp only [spec_CountKeptPlays.l2]
    rw [if_neg (by omega), hjw, if_pos (by omega), if_pos (by omega), wrap_id (x := q + 1) (by omega) (by omega)]
  | succ d ih =>
    intro i h1 h2
    have hi : i < (keptL p q).length := by omega
    have ih2 := ih (i + 1) (by omega) (by omega)
    rw [List.take_succ_eq_append_getElem hi, List.foldl_append] at ih2
    simp only [List.foldl_cons, List.foldl_nil] at ih2
    have hm := hmem _ (List.getElem_mem hi)
    have er : rd_T31 (keptL p q) (i : Int) = (keptL p q)[i] := by simp [rd_T31, List.getD_eq_getElem?_getD, hi]
    have hacc : 0 ≤ ((keptL p q).take i).foldl (fun acc y => All.step acc (cnt y)) n0 ∧ ((keptL p q).take i).foldl (fun acc y => All.step acc (cnt y)) n0 ≤ 1000000000000001 := fold_in (fun y => cntF_in 24 y) _ n0 (by omega)
    obtain ⟨y, hyy⟩ : ∃ y, y = (keptL p q)[i] := ⟨_, rfl⟩
    rw [← hyy] at er ih2 hm
    clear hyy
    generalize ((keptL p q).take i).foldl (fun acc y => All.step acc (cnt y)) n0 = acc at hacc ih2 ⊢
    have hy := J_in (a := a) (b := b) (x := y.f0) (y := y.f1) (by omega) (by omega) (by omega) (by omega) (by omega) (by omega)
    have hyw := J_wr (a := a) (b := b) (x := y.f0) (y := y.f1) (by omega) (by omega) (by omega) (by omega) (by omega) (by omega)
    have hv : rd T (J b y.f0 y.f1) = cnt y := hT.2 y.f0 y.f1 (by omega) (by omega) (by omega) (by omega) hm.2
    have hc : 0 ≤ cnt y ∧ cnt y ≤ 1000000000000001 := cntF_in 24 y
    refine Ev.step (f := fun k => spec_CountKeptPlays.l2 k T p q (All.step acc (cnt y)) (keptL p q) ((keptL p q).length : Int) ((i + 1 : Nat) : Int) a b) (fun k => ?_) ih2
    have hst : spec_l1Least.f (wrap64 (acc + cnt y)) 1000000000000001 = some (All.step acc (cnt y)) := by
      rw [wrap_id (by omega) (by omega)]
      unfold spec_l1Least.f All.step
      by_cases h5 : acc + cnt y < 1000000000000001
      · rw [if_pos h5, if_neg (by omega)]
      · rw [if_neg h5]
        by_cases h6 : (1000000000000001 : Int) < acc + cnt y
        · rw [if_pos h6]
        · rw [if_neg h6]; congr 1; omega
    simp only [spec_CountKeptPlays.l2]
    rw [if_pos (by omega), if_pos (by omega), if_pos (by omega), er, hyw, if_pos (by omega), if_pos (by omega), hv, hst]
    simp only [Option.bind_some]
    rw [wrap_id (x := (i : Int) + 1) (by omega) (by omega)]
    rfl
theorem l1_ev (p : Int) (hp : 1 ≤ p) (hpa : p ≤ a) (hrow : ∀ T, Tab a b T (p + 1) 1 → Ev (fun k => spec_CountKeptPlays.l0 k T (p + 1) a b) (res a b)) : ∀ (d : Nat) (q : Int) (T : List Int), (b + 1 - q).toNat = d → 1 ≤ q → q ≤ b + 1 → Tab a b T p q → Ev (fun k => spec_CountKeptPlays.l1 k T p q a b) (res a b) := by
  have hk := ok2_le hok
  intro d
  induction d with
  | zero =>
    intro q T h1 h2 h3 hT
    refine Ev.step (f := fun k => spec_CountKeptPlays.l0 k T (p + 1) a b) (fun k => ?_) (hrow T ⟨hT.1, fun x y g1 g2 g3 g4 g5 => hT.2 x y g1 g2 g3 g4 (by omega)⟩)
    simp only [spec_CountKeptPlays.l1]
    rw [if_neg (by omega), wrap_id (x := p + 1) (by omega) (by omega)]
  | succ d ih =>
    intro q T h1 h2 h3 hT
    have hqb : q ≤ b := by omega
    have hnext := ih (q + 1) _ (by omega) (by omega) (by omega) (Tab.write a b (by omega) (by omega) hT hp hpa h2 hqb)
    have hgo : ∀ n0 : Int, 0 ≤ n0 ∧ n0 ≤ 1 → (keptL p q).foldl (fun acc y => All.step acc (cnt y)) n0 = cnt ⟨p, q⟩ → Ev (fun k => spec_CountKeptPlays.j3 k T p q n0 a b) (res a b) := by
      intro n0 g1 g2
      have := l2_ev a b hok T p q hT hp hpa h2 hqb n0 g1 g2 hnext _ 0 (by omega) rfl
      simp only [List.take_zero, List.foldl_nil] at this
      exact Ev.step (f := fun k => (spec_laKept.f k p q).bind fun t => spec_CountKeptPlays.l2 k T p q n0 t (t.length : Int) 0 a b) (fun k => rfl) (Ev.bind (spec_kept p q (by omega) (by omega)) this)
    have hbar : okB ⟨p, q⟩ := by unfold okB; simp only; omega
    have hpq : ¬ (p = 1 ∧ q = 1) → p * q ≠ 1 := by
      intro hne e
      have e1 := Int.mul_le_mul_of_nonneg_left (show 1 ≤ q by omega) (show 0 ≤ p by omega)
      have e2 := Int.mul_le_mul_of_nonneg_right (show 1 ≤ p by omega) (show 0 ≤ q by omega)
      omega
    by_cases hp1 : p = 1
    · by_cases hq1 : q = 1
      · subst hp1; subst hq1
        refine Ev.step (f := fun k => spec_CountKeptPlays.j2 k T 1 1 0 true a b) (fun k => ?_) (Ev.step (f := fun k => spec_CountKeptPlays.j3 k T 1 1 1 a b) (fun k => ?_) (hgo 1 (by omega) ?_))
        · simp only [spec_CountKeptPlays.l1]
          rw [if_pos (by omega), if_pos trivial]
          rfl
        · simp only [spec_CountKeptPlays.j2]
          rw [if_pos trivial]
        · rw [cnt_eq hbar, if_pos (by simp)]
          rfl
      · refine Ev.step (f := fun k => spec_CountKeptPlays.j2 k T p q 0 false a b) (fun k => ?_) (Ev.step (f := fun k => spec_CountKeptPlays.j3 k T p q 0 a b) (fun k => ?_) (hgo 0 (by omega) ?_))
        · simp only [spec_CountKeptPlays.l1]
          rw [if_pos (by omega), if_pos hp1, show (q == 1) = false from beq_eq_false_iff_ne.2 hq1]
        · simp only [spec_CountKeptPlays.j2]
          rw [if_neg (by simp)]
        · rw [cnt_eq hbar, if_neg (hpq (by omega))]
    · refine Ev.step (f := fun k => spec_CountKeptPlays.j2 k T p q 0 false a b) (fun k => ?_) (Ev.step (f := fun k => spec_CountKeptPlays.j3 k T p q 0 a b) (fun k => ?_) (hgo 0 (by omega) ?_))
      · simp only [spec_CountKeptPlays.l1]
        rw [if_pos (by omega), if_neg hp1]
      · simp only [spec_CountKeptPlays.j2]
        rw [if_neg (by simp)]
      · rw [cnt_eq hbar, if_neg (hpq (by omega))]
theorem l0_ev : ∀ (d : Nat) (p : Int) (T : List Int), (a + 1 - p).toNat = d → 1 ≤ p → p ≤ a + 1 → Tab a b T p 1 → Ev (fun k => spec_CountKeptPlays.l0 k T p a b) (res a b) := by
  have hk := ok2_le hok
  intro d
  induction d with
  | zero =>
    intro p T h1 h2 h3 hT
    have hy := J_in (a := a) (b := b) (x := a) (y := b) (by omega) (by omega) (by omega) (by omega) (by omega) (by omega)
    have hyw := J_wr (a := a) (b := b) (x := a) (y := b) (by omega) (by omega) (by omega) (by omega) (by omega) (by omega)
    have hv := hT.2 a b (by omega) (by omega) (by omega) (by omega) (by omega)
    have hl := hT.1
    refine Ev.step (f := fun _ => some (res a b)) (fun k => ?_) (Ev.now _)
    simp only [spec_CountKeptPlays.l0]
    rw [if_neg (by omega), hyw, if_pos (by omega), if_pos (by omega), hv]
    unfold res
    split <;> rfl
  | succ d ih =>
    intro p T h1 h2 h3 hT
    refine Ev.step (f := fun k => spec_CountKeptPlays.l1 k T p 1 a b) (fun k => ?_) (l1_ev a b hok p h2 (by omega) (fun T' hT' => ih (p + 1) T' (by omega) (by omega) (by omega) hT') _ 1 T rfl (by omega) (by omega) hT)
    simp only [spec_CountKeptPlays.l0]
    rw [if_pos (by omega)]
theorem spec_res : Ev (fun k => spec_CountKeptPlays.f k a b) (res a b) := by
  have hk := ok2_le hok
  have hj := J_in (a := a) (b := b) (x := a) (y := b) (by omega) (by omega) (by omega) (by omega) (by omega) (by omega)
  have h4 : (a + 1) * (b + 1) = a * (b + 1) + (b + 1) := by rw [Int.add_mul, Int.one_mul]
  have hw : wrap64 (wrap64 (a + 1) * wrap64 (b + 1)) = (a + 1) * (b + 1) := by
    rw [wrap_id (x := a + 1) (by omega) (by omega), wrap_id (x := b + 1) (by omega) (by omega), wrap_id (by omega) (by omega)]
  have ht : Tab a b (List.replicate ((a + 1) * (b + 1)).toNat 0) 1 1 := ⟨by rw [List.length_replicate]; omega, fun x y g1 _ g3 _ g5 => by omega⟩
  refine Ev.congr (fun k => ?_) (l0_ev a b hok _ 1 _ rfl (by omega) (by omega) ht)
  unfold spec_CountKeptPlays.f
  rw [good_eq, hok]
  simp only [Option.bind_some, if_true, hw]
  rw [if_pos (by omega), if_pos (by omega)]
end
theorem pure (a b : Int) (_ : (Lit.int .i64 a).wf = true) (_ : (Lit.int .i64 b).wf = true) : ∃ k, laws_FnExactCountKeptPlays.f k a b = some true := by
  refine Ev.rounds (r := true) ?_
  unfold laws_FnExactCountKeptPlays.f
  simp only [laws_toBar.f, Option.bind_some]
  by_cases hok : ok2 a b = true
  · refine Ev.bind (spec_res a b hok) ?_
    have hi : impl_CountKeptPlays.f a b = some (res a b) := by
      have hk := ok2_le hok
      unfold impl_CountKeptPlays.f
      rw [isBar_eq2, hok]
      simp only [Option.bind_some, if_true]
      rw [if_pos (by omega)]
      unfold res
      split <;> rfl
    rw [hi]
    simp only [Option.bind_some, if_true]
    exact PEv.neg (by simp) (Ev.now _)
  · have hok2 : ok2 a b = false := by simpa using hok
    have hs : Ev (fun k => spec_CountKeptPlays.f k a b) (0, false) := by
      refine Ev.congr (fun k => ?_) (Ev.now _)
      unfold spec_CountKeptPlays.f
      rw [good_eq, hok2]
      rfl
    refine Ev.bind hs ?_
    have hi : impl_CountKeptPlays.f a b = some (0, false) := by
      unfold impl_CountKeptPlays.f
      rw [isBar_eq2, hok2]
      rfl
    rw [hi]
    simp only [Option.bind_some, if_true]
    exact PEv.neg (by simp) (Ev.now _)

end Go.Proofs.Ytoplnaobaedciaa.OwnFnExactCountKeptPlays
