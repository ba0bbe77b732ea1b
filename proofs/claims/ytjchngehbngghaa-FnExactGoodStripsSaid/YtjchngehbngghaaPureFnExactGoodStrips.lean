/- The law FnExactGoodStrips answers true: its helpers answer alike, so the walk through it ends in true. Conditions: none beyond the law's own. -/
import Derived.Test.YtjchngehbngghaaPureFnExactWinsStrips
import Derived.Test.YtjchngehbngghaaPRows
import Derived.Test.YtjchngehbngghaaGLawGood
namespace Go.Proofs.Ytjchngehbngghaa.Pure
open Go.RowKit Go.Proofs.Ytjchngehbngghaa.All Go.Proofs.YtjchngehbngghaaW.PrintWords Go.Proofs.YtjchngehbngghaaW.PrintLast Go.Proofs.Ytjchngehbngghaa.PEv Go.Proofs.Ytjchngehbngghaa.PStrip Go.Proofs.Ytjchngehbngghaa.PMoves Go.Proofs.Ytjchngehbngghaa.PValues Go.Proofs.Ytjchngehbngghaa.PStrips Go.Proofs.Ytjchngehbngghaa.PCopy
set_option linter.unusedSimpArgs false
set_option linter.unusedVariables false

namespace XGood
/-- Whether nothing is left behind the move at a place of a strip. -/
def nil (vl : List Int) (all long a : Int) : Bool := decide (Go.bits .xor .i64 (Go.bits .xor .i64 (Go.bits .xor .i64 all (rd vl long)) (rd vl a)) (rd vl (long - a)) = 0)
def row (vl : List Int) (all i long : Int) (L : List Int) : List (List Int) := (L.filter (nil vl all long)).map (fun a => [i, a])
def rows (vl : List Int) (all b : Int) (u : Bool) : Int → List Int → List (List Int)
  | _, [] => []
  | i, x :: r => row vl all i x (mvs b u x 60 1) ++ rows vl all b u (i + 1) r
theorem row_cons (vl : List Int) (all i long a : Int) (L : List Int) : row vl all i long (a :: L) = if nil vl all long a = true then [i, a] :: row vl all i long L else row vl all i long L := by
  unfold row
  rw [List.filter_cons]
  split <;> simp
theorem row_length (vl : List Int) (all i long : Int) (L : List Int) : (row vl all i long L).length ≤ L.length := by
  unfold row
  rw [List.length_map]
  exact List.length_filter_le _ _
theorem row_two {vl : List Int} {all i long : Int} {L : List Int} {x : List Int} (h : x ∈ row vl all i long L) : x.length = 2 := by
  unfold row at h
  obtain ⟨a, _, rfl⟩ := List.mem_map.1 h
  rfl
theorem rows_length (vl : List Int) (all b : Int) (u : Bool) : ∀ (L : List Int) (i : Int), (rows vl all b u i L).length ≤ 60 * L.length
  | [], i => by simp [rows]
  | x :: r, i => by
    rw [rows, List.length_append, List.length_cons]
    have h1 := rows_length vl all b u r (i + 1)
    have h2 := row_length vl all i x (mvs b u x 60 1)
    have h3 := mvs_length (least := b) (u := u) (n := x) 60 1
    omega
theorem rows_two (vl : List Int) (all b : Int) (u : Bool) : ∀ (L : List Int) (i : Int) (x : List Int), x ∈ rows vl all b u i L → x.length = 2
  | [], i, x, h => by simp [rows] at h
  | y :: r, i, x, h => by
    rw [rows] at h
    rcases List.mem_append.1 h with h | h
    · exact row_two h
    · exact rows_two vl all b u r _ x h

theorem sp_l1 (vl : List Int) (hvl : vl.length = 61) (all b : Int) (u : Bool) (l : List Int) (i : Int) (hi : 0 ≤ i ∧ i ≤ 100) (n : Int) (hn : 1 ≤ n ∧ n ≤ 60) (r : (List (List Int)) × Bool) : ∀ (d : Nat) (a : Int) (acc : List (List Int)), 1 ≤ a → a + d ≤ 100 → n < 2 * (a + d) → acc.length + d ≤ 100000 →
    Ev (fun k => spec_GoodStrips.l0 k b u vl all (acc ++ row vl all i n (mvs b u n d a)) l (l.length : Int) (i + 1)) r → Ev (fun k => spec_GoodStrips.l1 k b u vl all acc i n a l (l.length : Int) i) r := by
  intro d
  induction d with
  | zero =>
    intro a acc h1 h2 h3 h4 hr
    rw [mvs, show row vl all i n [] = [] from rfl, List.append_nil] at hr
    refine Ev.step (f := fun k => spec_GoodStrips.l0 k b u vl all acc l (l.length : Int) (i + 1)) (fun k => ?_) hr
    simp only [spec_GoodStrips.l1]
    rw [wrap_in (x := 2 * a) (by omega) (by omega), if_neg (by omega), wrap_in (x := i + 1) (by omega) (by omega)]
  | succ d ih =>
    intro a acc h1 h2 h3 h4 hr
    rw [mvs] at hr
    by_cases hc : 2 * a ≤ n
    · rw [if_pos hc] at hr
      cases hcan : can b u n a with
      | true =>
        rw [hcan, if_pos rfl, row_cons] at hr
        cases hz : nil vl all n a with
        | true =>
          rw [hz, if_pos rfl] at hr
          have HZ0 := Aside0.mk hz
          clear hz
          refine Ev.step (f := fun k => spec_GoodStrips.l1 k b u vl all (acc ++ [[i, a]]) i n (a + 1) l (l.length : Int) i) (fun k => ?_) (ih (a + 1) (acc ++ [[i, a]]) (by omega) (by omega) (by omega) (by rw [List.length_append, List.length_singleton]; omega) (by rw [List.append_assoc, List.singleton_append]; exact hr))
          have hz := HZ0.out
          unfold nil at hz
          rw [decide_eq_true_eq] at hz
          have HZ := Aside0.mk hz
          clear hz
          simp only [spec_GoodStrips.l1]
          rw [wrap_in (x := 2 * a) (by omega) (by omega), if_pos hc, laCan_eq b u n a hn (by omega), hcan, wrap_in (x := a + 1) (by omega) (by omega), wrap_in (x := n - a) (by omega) (by omega)]
          simp only [Option.bind_some, if_true]
          rw [if_pos (by omega), if_pos (by omega), if_pos (by omega), if_pos (by omega), if_pos (by omega), if_pos (by omega), if_pos HZ.out, if_pos (by omega)]
        | false =>
          rw [hz, if_neg (by simp)] at hr
          have HZ0 := Aside0.mk hz
          clear hz
          refine Ev.step (f := fun k => spec_GoodStrips.l1 k b u vl all acc i n (a + 1) l (l.length : Int) i) (fun k => ?_) (ih (a + 1) acc (by omega) (by omega) (by omega) (by omega) hr)
          have hz := HZ0.out
          unfold nil at hz
          rw [decide_eq_false_iff_not] at hz
          have HZ := Aside0.mk hz
          clear hz
          simp only [spec_GoodStrips.l1]
          rw [wrap_in (x := 2 * a) (by omega) (by omega), if_pos hc, laCan_eq b u n a hn (by omega), hcan, wrap_in (x := a + 1) (by omega) (by omega), wrap_in (x := n - a) (by omega) (by omega)]
          simp only [Option.bind_some, if_true]
          rw [if_pos (by omega), if_pos (by omega), if_pos (by omega), if_pos (by omega), if_pos (by omega), if_pos (by omega), if_neg HZ.out]
      | false =>
        rw [hcan, if_neg (by simp)] at hr
        refine Ev.step (f := fun k => spec_GoodStrips.l1 k b u vl all acc i n (a + 1) l (l.length : Int) i) (fun k => ?_) (ih (a + 1) acc (by omega) (by omega) (by omega) (by omega) hr)
        simp only [spec_GoodStrips.l1]
        rw [wrap_in (x := 2 * a) (by omega) (by omega), if_pos hc, laCan_eq b u n a hn (by omega), hcan, wrap_in (x := a + 1) (by omega) (by omega)]
        simp
    · rw [if_neg hc, show row vl all i n [] = [] from rfl, List.append_nil] at hr
      refine Ev.step (f := fun k => spec_GoodStrips.l0 k b u vl all acc l (l.length : Int) (i + 1)) (fun k => ?_) hr
      simp only [spec_GoodStrips.l1]
      rw [wrap_in (x := 2 * a) (by omega) (by omega), if_neg hc, wrap_in (x := i + 1) (by omega) (by omega)]

theorem sp_l0 (vl : List Int) (hvl : vl.length = 61) (all b : Int) (u : Bool) (l : List Int) (hl : ok l = true) : ∀ (d i : Nat) (acc : List (List Int)), i ≤ l.length → l.length - i = d → acc.length ≤ 60 * i → Ev (fun k => spec_GoodStrips.l0 k b u vl all acc l (l.length : Int) (i : Int)) (acc ++ rows vl all b u (i : Int) (l.drop i), true) := by
  have hm := ok_mem hl
  intro d
  induction d with
  | zero =>
    intro i acc h1 h2 h3
    rw [List.drop_of_length_le (by omega), rows, List.append_nil]
    refine Ev.step (f := fun _ => some (acc, true)) (fun k => ?_) (Ev.now _)
    simp only [spec_GoodStrips.l0]
    rw [if_neg (by omega)]
  | succ d ih =>
    intro i acc h1 h2 h3
    have hi : i < l.length := by omega
    have er : rd l (i : Int) = l[i] := by simp [rd, List.getD_eq_getElem?_getD, hi]
    have hx := hm.2.2 (i : Int) (by omega) (by omega)
    rw [er] at hx
    rw [List.drop_eq_getElem_cons hi, rows, ← List.append_assoc]
    have hrl := row_length vl all (i : Int) l[i] (mvs b u l[i] 60 1)
    have hml := mvs_length (least := b) (u := u) (n := l[i]) 60 1
    have := ih (i + 1) (acc ++ row vl all (i : Int) l[i] (mvs b u l[i] 60 1)) (by omega) (by omega) (by rw [List.length_append]; omega)
    have e1 : ((i + 1 : Nat) : Int) = (i : Int) + 1 := by omega
    rw [e1] at this
    refine Ev.step (f := fun k => spec_GoodStrips.l1 k b u vl all acc (i : Int) l[i] 1 l (l.length : Int) (i : Int)) (fun k => ?_) (sp_l1 vl hvl all b u l (i : Int) (by omega) l[i] hx _ 60 1 acc (by omega) (by omega) (by omega) (by omega) this)
    simp only [spec_GoodStrips.l0]
    rw [if_pos (by omega), if_pos (by omega), if_pos (by omega), er]

theorem im_l1 (vl : List Int) (hvl : vl.length = 61) (b : Int) (u : Bool) (l : List Int) (hl : ok l = true) (i : Int) (hi : 0 ≤ i ∧ i ≤ 100) (n : Int) (hn : 1 ≤ n ∧ n ≤ 60) (M : List Int) (hM : ∀ x ∈ M, 1 ≤ x ∧ 2 * x ≤ n) (hML : M.length ≤ 60) (all : Int) (htog : Ev (fun k => impl_together.f k l vl) all) (r : (List (List Int)) × Bool) : ∀ (d j : Nat) (acc : List (List Int)), j ≤ M.length → M.length - j = d → acc.length + d ≤ 100000 →
    Ev (fun k => impl_GoodStrips.l0 k l (acc ++ row vl all i n (M.drop j)) vl l (l.length : Int) (i + 1) b u) r → Ev (fun k => impl_GoodStrips.l1 k l acc vl i n l (l.length : Int) i M (M.length : Int) (j : Int) b u) r := by
  intro d
  induction d with
  | zero =>
    intro j acc h1 h2 h3 hr
    rw [List.drop_of_length_le (by omega), show row vl all i n [] = [] from rfl, List.append_nil] at hr
    refine Ev.step (f := fun k => impl_GoodStrips.l0 k l acc vl l (l.length : Int) (i + 1) b u) (fun k => ?_) hr
    simp only [impl_GoodStrips.l1]
    rw [if_neg (by omega), wrap_in (x := i + 1) (by omega) (by omega)]
  | succ d ih =>
    intro j acc h1 h2 h3 hr
    have hj : j < M.length := by omega
    have er : rd M (j : Int) = M[j] := by simp [rd, List.getD_eq_getElem?_getD, hj]
    have hx := hM M[j] (List.getElem_mem hj)
    rw [List.drop_eq_getElem_cons hj, row_cons] at hr
    have hw1 : wrap64 ((j : Int) + 1) = ((j + 1 : Nat) : Int) := by rw [wrap_in (x := (j : Int) + 1) (by omega) (by omega)]; omega
    have HW := Aside0.mk hw1
    have HE := Aside0.mk er
    clear hw1 er
    refine Ev.step (f := fun k => (impl_together.f k l vl).bind fun t => if 0 ≤ n then (if n < (vl.length : Int) then (if 0 ≤ M[j] then (if M[j] < (vl.length : Int) then (if 0 ≤ n - M[j] then (if n - M[j] < (vl.length : Int) then (if (Go.bits .xor .i64 (Go.bits .xor .i64 (Go.bits .xor .i64 t (rd vl n)) (rd vl M[j])) (rd vl (n - M[j]))) = 0 then (if acc.length < 5864062014805 then impl_GoodStrips.l1 k l (acc ++ [[i, M[j]]]) vl i n l (l.length : Int) i M (M.length : Int) ((j + 1 : Nat) : Int) b u else none) else impl_GoodStrips.l1 k l acc vl i n l (l.length : Int) i M (M.length : Int) ((j + 1 : Nat) : Int) b u) else none) else none) else none) else none) else none) else none) (fun k => ?_) (Ev.bind htog ?_)
    · simp only [impl_GoodStrips.l1]
      rw [if_pos (by omega), if_pos (by omega), if_pos (by omega), HE.out, wrap_in (x := n - M[j]) (by omega) (by omega), HW.out]
    · refine pos (by omega) ?_
      refine pos (by omega) ?_
      refine pos (by omega) ?_
      refine pos (by omega) ?_
      refine pos (by omega) ?_
      refine pos (by omega) ?_
      cases hz : nil vl all n M[j] with
      | true =>
        rw [hz, if_pos rfl] at hr
        unfold nil at hz
        rw [decide_eq_true_eq] at hz
        refine pos hz ?_
        clear hz
        refine pos (by omega) ?_
        exact ih (j + 1) (acc ++ [[i, M[j]]]) (by omega) (by omega) (by rw [List.length_append, List.length_singleton]; omega) (by rw [List.append_assoc, List.singleton_append]; exact hr)
      | false =>
        rw [hz, if_neg (by simp)] at hr
        unfold nil at hz
        rw [decide_eq_false_iff_not] at hz
        refine neg hz ?_
        clear hz
        exact ih (j + 1) acc (by omega) (by omega) (by omega) hr

theorem im_l0 (vl : List Int) (hvl : vl.length = 61) (b : Int) (u : Bool) (l : List Int) (hl : ok l = true) (all : Int) (htog : Ev (fun k => impl_together.f k l vl) all) : ∀ (d i : Nat) (acc : List (List Int)), i ≤ l.length → l.length - i = d → acc.length ≤ 60 * i → Ev (fun k => impl_GoodStrips.l0 k l acc vl l (l.length : Int) (i : Int) b u) (acc ++ rows vl all b u (i : Int) (l.drop i), true) := by
  have hm := ok_mem hl
  intro d
  induction d with
  | zero =>
    intro i acc h1 h2 h3
    rw [List.drop_of_length_le (by omega), rows, List.append_nil]
    refine Ev.step (f := fun _ => some (acc, true)) (fun k => ?_) (Ev.now _)
    simp only [impl_GoodStrips.l0]
    rw [if_neg (by omega)]
  | succ d ih =>
    intro i acc h1 h2 h3
    have hi : i < l.length := by omega
    have er : rd l (i : Int) = l[i] := by simp [rd, List.getD_eq_getElem?_getD, hi]
    have hx := hm.2.2 (i : Int) (by omega) (by omega)
    rw [er] at hx
    rw [List.drop_eq_getElem_cons hi, rows, ← List.append_assoc]
    have hrl := row_length vl all (i : Int) l[i] (mvs b u l[i] 60 1)
    have hml := mvs_length (least := b) (u := u) (n := l[i]) 60 1
    have := ih (i + 1) (acc ++ row vl all (i : Int) l[i] (mvs b u l[i] 60 1)) (by omega) (by omega) (by rw [List.length_append]; omega)
    have e1 : ((i + 1 : Nat) : Int) = (i : Int) + 1 := by omega
    rw [e1] at this
    refine Ev.step (f := fun k => (impl_rule_moves.f k b u l[i]).bind fun t => impl_GoodStrips.l1 k l acc vl (i : Int) l[i] l (l.length : Int) (i : Int) t (t.length : Int) 0 b u) (fun k => ?_) (Ev.bind (moves_ev b u l[i] hx) (im_l1 vl hvl b u l hl (i : Int) (by omega) l[i] hx (mvs b u l[i] 60 1) (fun x hx => mvs_mem 60 1 x hx) hml all htog _ _ 0 acc (Nat.zero_le _) rfl (by omega) this))
    simp only [impl_GoodStrips.l0]
    rw [if_pos (by omega), if_pos (by omega), if_pos (by omega), er]

def res (l : List Int) (b : Int) (u : Bool) : (List (List Int)) × Bool := if ok l = true ∧ (1 ≤ b ∧ b ≤ 60) then (rows (vs b u 60) (XWins.alls (vs b u 60) l 0) b u 0 l, true) else ([], false)
theorem spec_r (l : List Int) (hl : l.length ≤ 4000000) (b : Int) (u : Bool) : Ev (fun k => spec_GoodStrips.f k l b u) (res l b u) := by
  have h1 := laStrips_ev l hl b
  unfold res
  by_cases h : ok l = true ∧ (1 ≤ b ∧ b ≤ 60)
  · rw [h.1, decide_eq_true h.2, Bool.true_and] at h1
    rw [if_pos h]
    simp only [spec_GoodStrips.f]
    have := sp_l0 (vs b u 60) (vs_length b u 60) (XWins.alls (vs b u 60) l 0) b u l h.1 l.length 0 [] (by omega) (by omega) (by simp)
    exact Ev.bind h1 (pos rfl (Ev.bind (laValues_ev 60 b u (by omega)) (Ev.bind (Ev.congr (fun k => rfl) (XWins.sp_go (vs b u 60) l (vs_length b u 60) h.1 l.length 0 0 (by omega) (by omega)) : Ev (fun k => spec_laAll.f k l (vs b u 60)) _) this)))
  · rw [show (ok l && decide (1 ≤ b ∧ b ≤ 60)) = false by
      rw [Bool.and_eq_false_iff]
      by_cases h2 : ok l = true
      · exact .inr (decide_eq_false (fun h3 => h ⟨h2, h3⟩))
      · exact .inl (by simpa using h2)] at h1
    rw [if_neg h]
    simp only [spec_GoodStrips.f]
    exact Ev.bind h1 (neg (by simp) (Ev.now _))
theorem impl_r (l : List Int) (b : Int) (u : Bool) : Ev (fun k => impl_GoodStrips.f k l b u) (res l b u) := by
  unfold res
  simp only [impl_GoodStrips.f, areStrips_eq, isStrip, Option.bind_some]
  cases h1 : ok l with
  | true =>
    by_cases h2 : 1 ≤ b ∧ b ≤ 60
    · rw [if_pos ⟨rfl, h2⟩]
      simp only [if_true, decide_eq_true h2]
      have := im_l0 (vs b u 60) (vs_length b u 60) b u l h1 (XWins.alls (vs b u 60) l 0) (Ev.congr (fun k => rfl) (XWins.im_go (vs b u 60) l (vs_length b u 60) h1 l.length 0 0 (by omega) (by omega))) l.length 0 [] (by omega) (by omega) (by simp)
      refine Ev.step (f := fun k => (impl_rule_values.f k b u 60).bind fun t => impl_GoodStrips.l0 k l [] t l (l.length : Int) 0 b u) (fun k => ?_) (Ev.bind (values_ev 60 b u (by omega)) this)
      simp only [impl_GoodStrips.j0]
      rw [if_neg (by simp)]
    · rw [if_neg (fun h => h2 h.2)]
      simp only [if_true, decide_eq_false h2]
      refine Ev.step (f := fun _ => some ([], false)) (fun k => ?_) (Ev.now _)
      simp only [impl_GoodStrips.j0]
      rw [if_pos (by simp)]
  | false =>
    rw [if_neg (fun h => by cases h.1)]
    simp only [Bool.false_eq_true, if_false]
    refine Ev.step (f := fun _ => some ([], false)) (fun k => ?_) (Ev.now _)
    simp only [impl_GoodStrips.j0]
    rw [if_pos (by simp)]
theorem res_ok (l : List Int) (b : Int) (u : Bool) : (res l b u).1.length ≤ 480 ∧ ∀ x ∈ (res l b u).1, x.length = 2 := by
  unfold res
  split
  · next h =>
    have hm := ok_mem h.1
    have := rows_length (vs b u 60) (XWins.alls (vs b u 60) l 0) b u l 0
    exact ⟨by show (rows _ _ _ _ _ _).length ≤ 480; omega, fun x hx => rows_two _ _ _ _ _ _ x hx⟩
  · exact ⟨by simp, by simp⟩
end XGood
/-- Rounds enough for all that the law's helpers answer. -/
theorem goodAns (l : List Int) (hl : ¬ (l.length : Int) > 1048576) (b : Int) (u : Bool) : ∃ k m1 y1 m2 R2, GoodAns k l b u (XGood.res l b u).1 (XGood.res l b u).2 m1 y1 m2 R2 := by
  obtain ⟨hr1, hr2⟩ := XGood.res_ok l b u
  have hr3 : ∀ x ∈ (XGood.res l b u).1, x.length ≤ 1000000 := fun x hx => by rw [hr2 x hx]; omega
  have hr4 := PRows.tot_le (XGood.res l b u).1 2 (fun x hx => by rw [hr2 x hx]; omega)
  have e1 := copy_ev l (by omega)
  have e2 := XGood.spec_r l (by omega) b u
  have e3 := XGood.impl_r l b u
  have e4 := PRows.eqSS (XGood.res l b u).1 hr3 (by omega)
  have e5 := PInt.eqS l (by omega)
  obtain ⟨m, y, h0, e6, _⟩ := PInt.marked l (by omega)
  have e7 := PRows.markSS (XGood.res l b u).1 (by omega) hr3 (by omega)
  have e8 := PRows.heldSS (XGood.res l b u).1 (by omega) hr3 (by omega)
  obtain ⟨K1, e1⟩ := e1
  obtain ⟨K2, e2⟩ := e2
  obtain ⟨K3, e3⟩ := e3
  obtain ⟨K4, e4⟩ := e4
  obtain ⟨K5, e5⟩ := e5
  obtain ⟨K6, e6⟩ := e6
  obtain ⟨K7, e7⟩ := e7
  obtain ⟨K8, e8⟩ := e8
  exact ⟨K1 + K2 + K3 + K4 + K5 + K6 + K7 + K8, m, y, _, _, ⟨e1 _ (by omega), e2 _ (by omega), e3 _ (by omega), e4 _ (by omega), e5 _ (by omega), e6 _ (by omega), e7 _ (by omega), e8 _ (by omega), h0, by omega⟩⟩
theorem walk_FnExactGoodStrips (a0 : Option Addr) (len0 cap0 : Nat) (z0 : List Int) (a1 : Int) (a2 : Bool) (w : World) (w0 : (a0 = none ∧ len0 = 0 ∧ cap0 = 0 ∧ z0 = []) ∨ ∃ x, a0 = some x ∧ len0 ≤ cap0 ∧ cap0 ≤ maxLen ∧ z0.length = cap0 ∧ (∀ i, i < z0.length → w.cell? (x.add i) = some (.int .i64 (z0.getD i 0))) ∧ ∀ n ∈ z0, (Lit.int .i64 n).wf = true) (y0 : len0 * 8 ≤ 140737488351232) (w1 : (Lit.int .i64 a1).wf = true) :
    Calls Try.prog 10 #[.slice a0 len0 cap0, .int .i64 a1, .bool a2] w fun e w' => e = .returned (.bool true) ∧ Below w.heap.size w w' := by
  obtain ⟨l0, rfl, hr0, hm0, hw0, hc0⟩ := ReadsInt.ofRowC w0
  by_cases hl : (l0.length : Int) > 1048576
  · exact laws_FnExactGoodStrips.long _ _ l0 a1 a2 w hl
  · obtain ⟨k, m1, y1, m2, R2, h⟩ := goodAns l0 hl a1 a2
    exact laws_FnExactGoodStrips.calls k _ _ l0 a1 a2 _ _ m1 y1 m2 R2 w (Kd.C_of_reads (d := (0 : Int)) (h1 := fun _ => rfl) hr0) hc0 hl h
end Go.Proofs.Ytjchngehbngghaa.Pure
