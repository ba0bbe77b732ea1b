/- FirstGoodSeveral of the program and of the reference answer alike, and the argument stays as it was. Conditions: none; this text speaks of the printed Lean functions alone. -/
import Derived.Test.YtoplnaobaedciaaPKept
import Derived.Test.YtoplnaobaedciaaAx13
import Derived.Test.YtoplnaobaedciaaPBar
import Derived.Test.YtoplnaobaedciaaPEv
namespace Go.Proofs.Ytoplnaobaedciaa.OwnFnExactFirstGoodSeveral
open Go.RowKit Go.Proofs.Ytoplnaobaedciaa.All Go.Proofs.YtoplnaobaedciaaW.PrintWords Go.Proofs.YtoplnaobaedciaaW.PrintLast Go.Proofs.Ytoplnaobaedciaa.PKept

theorem okAll (l : List S31) : (!(l.any fun x => !barOk x)) = l.all (fun x => ok2 x.f0 x.f1) := by
  induction l with
  | nil => rfl
  | cons x r ih => simp only [List.any_cons, List.all_cons, Bool.not_or, Bool.not_not, ih]; rfl
/-- One to eight bars. -/
def barsOk (l : List S31) : Bool := decide (1 ≤ (l.length : Int) ∧ (l.length : Int) ≤ 8) && l.all (fun x => ok2 x.f0 x.f1)
theorem impl_bars (l : List S31) : impl_areSeveral.f l = some (barsOk l) := by unfold impl_areSeveral.f barsOk; rw [okAll]
theorem bars_go (l : List S31) (hl : l.length ≤ 8) : ∀ (d i : Nat), i ≤ l.length → l.length - i = d → Ev (fun k => spec_laBars.l0 k l (l.length : Int) (i : Int)) ((l.drop i).all (fun x => ok2 x.f0 x.f1)) := by
  intro d
  induction d with
  | zero =>
    intro i h1 h2
    rw [List.drop_of_length_le (by omega), List.all_nil]
    exact Ev.step (f := fun _ => some true) (fun k => by simp only [spec_laBars.l0]; rw [if_neg (by omega)]) (Ev.now _)
  | succ d ih =>
    intro i h1 h2
    have hi : i < l.length := by omega
    have er : rd_T31 l (i : Int) = l[i] := by simp [rd_T31, List.getD_eq_getElem?_getD, hi]
    rw [List.drop_eq_getElem_cons hi, List.all_cons]
    refine Ev.step (f := fun k => if ok2 l[i].f0 l[i].f1 = true then spec_laBars.l0 k l (l.length : Int) ((i + 1 : Nat) : Int) else some false) (fun k => ?_) ?_
    · simp only [spec_laBars.l0]
      rw [if_pos (by omega), if_pos (by omega), if_pos (by omega), er, good_eq, wrap_id (by omega) (by omega)]
      rfl
    · cases h : ok2 l[i].f0 l[i].f1
      · exact Ev.now _
      · rw [Bool.true_and]
        exact ih (i + 1) (by omega) (by omega)
theorem spec_bars (l : List S31) : Ev (fun k => spec_laBars.f k l) (barsOk l) := by
  unfold spec_laBars.f barsOk spec_l1In.f
  by_cases h : 1 ≤ (l.length : Int) ∧ (l.length : Int) ≤ 8
  · rw [decide_eq_true h, Bool.true_and]
    simp only [ge_iff_le, if_pos h.1, decide_eq_true h.2, Option.bind_some]
    have := bars_go l (by omega) l.length 0 (by omega) (by omega)
    rw [List.drop_zero] at this
    exact this
  · rw [decide_eq_false h, Bool.false_and]
    by_cases h1 : 1 ≤ (l.length : Int)
    · have h2 : ¬ (l.length : Int) ≤ 8 := fun h2 => h ⟨h1, h2⟩
      simp only [ge_iff_le, if_pos h1, decide_eq_false h2, Option.bind_some]
      exact Ev.now _
    · simp only [ge_iff_le, if_neg h1, Option.bind_some]
      exact Ev.now _
/-- Its heap. -/
def heap (x : S31) : Int := Go.bits .xor .i64 (wrap64 (x.f0 - 1)) (wrap64 (x.f1 - 1))
def xorAll (l : List S31) (a : Int) : Int := l.foldl (fun acc x => Go.bits .xor .i64 acc (heap x)) a
theorem spec_xor (l : List S31) (hl : l.length ≤ 8) : ∀ (d i : Nat) (a : Int), i ≤ l.length → l.length - i = d → Ev (fun k => spec_laSeveral.l0 k a l (l.length : Int) (i : Int)) (xorAll (l.drop i) a) := by
  intro d
  induction d with
  | zero =>
    intro i a h1 h2
    rw [List.drop_of_length_le (by omega)]
    exact Ev.step (f := fun _ => some a) (fun k => by simp only [spec_laSeveral.l0]; rw [if_neg (by omega)]) (Ev.now _)
  | succ d ih =>
    intro i a h1 h2
    have hi : i < l.length := by omega
    have er : rd_T31 l (i : Int) = l[i] := by simp [rd_T31, List.getD_eq_getElem?_getD, hi]
    rw [List.drop_eq_getElem_cons hi]
    refine Ev.step (f := fun k => spec_laSeveral.l0 k (Go.bits .xor .i64 a (heap l[i])) l (l.length : Int) ((i + 1 : Nat) : Int)) (fun k => ?_) (ih (i + 1) _ (by omega) (by omega))
    simp only [spec_laSeveral.l0]
    rw [if_pos (by omega), if_pos (by omega), if_pos (by omega), er, wrap_id (by omega) (by omega)]
    rfl
theorem impl_xor (l : List S31) (hl : l.length ≤ 8) : ∀ (d i : Nat) (a : Int), i ≤ l.length → l.length - i = d → Ev (fun k => impl_keptHeaps.l0 k a l (l.length : Int) (i : Int)) (xorAll (l.drop i) a) := by
  intro d
  induction d with
  | zero =>
    intro i a h1 h2
    rw [List.drop_of_length_le (by omega)]
    exact Ev.step (f := fun _ => some a) (fun k => by simp only [impl_keptHeaps.l0]; rw [if_neg (by omega)]) (Ev.now _)
  | succ d ih =>
    intro i a h1 h2
    have hi : i < l.length := by omega
    have er : rd_T31 l (i : Int) = l[i] := by simp [rd_T31, List.getD_eq_getElem?_getD, hi]
    rw [List.drop_eq_getElem_cons hi]
    refine Ev.step (f := fun k => impl_keptHeaps.l0 k (Go.bits .xor .i64 a (heap l[i])) l (l.length : Int) ((i + 1 : Nat) : Int)) (fun k => ?_) (ih (i + 1) _ (by omega) (by omega))
    simp only [impl_keptHeaps.l0]
    rw [if_pos (by omega), if_pos (by omega), if_pos (by omega), er, wrap_id (by omega) (by omega)]
    rfl
theorem xor_range : ∀ i j : Fin 16, decide (0 ≤ Go.bits .xor .i64 (i.val : Int) (j.val : Int) ∧ Go.bits .xor .i64 (i.val : Int) (j.val : Int) ≤ 15) = true := by decide +kernel
theorem xor_in {x y : Int} (hx : 0 ≤ x ∧ x ≤ 15) (hy : 0 ≤ y ∧ y ≤ 15) : 0 ≤ Go.bits .xor .i64 x y ∧ Go.bits .xor .i64 x y ≤ 15 := by
  have h := xor_range ⟨x.toNat, by omega⟩ ⟨y.toNat, by omega⟩
  have e1 : ((x.toNat : Nat) : Int) = x := by omega
  have e2 : ((y.toNat : Nat) : Int) = y := by omega
  simp only [e1, e2, decide_eq_true_eq] at h
  exact h
theorem heap_in {x : S31} (h : ok2 x.f0 x.f1 = true) : 0 ≤ heap x ∧ heap x ≤ 15 := by
  have h1 := ok2_le h
  unfold heap
  rw [wrap_id (by omega) (by omega), wrap_id (by omega) (by omega)]
  exact xor_in (by omega) (by omega)
theorem xorAll_in : ∀ (l : List S31) (a : Int), l.all (fun x => ok2 x.f0 x.f1) = true → 0 ≤ a ∧ a ≤ 15 → 0 ≤ xorAll l a ∧ xorAll l a ≤ 15
  | [], _, _, ha => ha
  | x :: r, a, h, ha => by
    rw [List.all_cons, Bool.and_eq_true] at h
    exact xorAll_in r _ h.2 (xor_in ha (heap_in h.1))
theorem bars_some {l : List S31} (h : barsOk l = true) : 1 ≤ l.length ∧ l.length ≤ 8 ∧ l.all (fun x => ok2 x.f0 x.f1) = true := by
  unfold barsOk at h
  rw [Bool.and_eq_true, decide_eq_true_eq] at h
  exact ⟨by omega, by omega, h.2⟩
/-- laws.Bar to impl.Bar, in a list. -/
def conv (l : List S29) : List S31 := l.map fun x => ⟨x.f0, x.f1⟩
theorem to_go (l : List S29) (hl : l.length ≤ 1048576) : ∀ (d i : Nat) (y : List S31), i ≤ l.length → l.length - i = d → y.length = l.length → y.take i = (conv l).take i → Ev (fun k => laws_toBarS.l0 k l y (i : Int)) (conv l) := by
  intro d
  induction d with
  | zero =>
    intro i y h1 h2 hy ht
    have hi : i = l.length := by omega
    subst hi
    rw [List.take_of_length_le (by omega), List.take_of_length_le (by simp [conv])] at ht
    subst ht
    exact Ev.step (f := fun _ => some (conv l)) (fun k => by simp only [laws_toBarS.l0]; rw [if_neg (by omega)]) (Ev.now _)
  | succ d ih =>
    intro i y h1 h2 hy ht
    have hi : i < l.length := by omega
    have er : rd_T29 l (i : Int) = l[i] := by simp [rd_T29, List.getD_eq_getElem?_getD, hi]
    refine Ev.step (f := fun k => laws_toBarS.l0 k l (y.set i ⟨l[i].f0, l[i].f1⟩) ((i + 1 : Nat) : Int)) (fun k => ?_) (ih (i + 1) (y.set i ⟨l[i].f0, l[i].f1⟩) (by omega) (by omega) (by simpa using hy) ?_)
    · simp only [laws_toBarS.l0]
      rw [if_pos (by omega), if_pos (by omega), er]
      simp only [laws_toBar.f, Option.bind_some, Int.toNat_natCast]
      rw [if_pos (by omega), wrap_id (by omega) (by omega)]
      rfl
    · rw [List.take_succ_eq_append_getElem (by simp; omega), List.take_succ_eq_append_getElem (by simp [conv]; omega), List.take_set, List.set_eq_of_length_le (by simp; omega), ht]
      simp [conv]
theorem toS (l : List S29) (hl : l.length ≤ 1048576) : Ev (fun k => laws_toBarS.f k l) (conv l) := by
  unfold laws_toBarS.f
  refine PEv.pos (by omega) (PEv.pos (by omega) ?_)
  exact to_go l hl _ 0 _ (by omega) rfl (by simp) (by simp)
theorem sz (l : List S29) (hl : l.length ≤ 9223372036854775807) : laws_szBarS.f l 1048576 = some (if l.length ≤ 1048576 then 1048576 - (l.length : Int) else -1) := by
  unfold laws_szBarS.f
  rw [wrap_id (by omega) (by omega)]
  by_cases h : l.length ≤ 1048576
  · rw [if_neg (by omega), if_pos h]
  · rw [if_pos (by omega), if_neg h]

/-- Behind this move they are lost. -/
def hit (h : Int) (b x : S31) : Bool := decide (Go.bits .xor .i64 (Go.bits .xor .i64 h (heap b)) (heap x) = 0)
/-- The first one of those moves. -/
def firstOf (h : Int) : List S31 → Int → Int × Int × Int × Bool
  | [], _ => (0, 0, 0, false)
  | b :: r, i => match (keptL b.f0 b.f1).find? (hit h b) with
    | some x => (i, x.f0, x.f1, true)
    | none => firstOf h r (i + 1)
theorem spec_in (h : Int) (bars : List S31) (i : Int) (b : S31) (l : List S31) (hl : l.length ≤ 2000) (r : Int × Int × Int × Bool) (hi : 0 ≤ i ∧ i ≤ 10)
    (hr : ∀ _ : l.find? (hit h b) = none, Ev (fun k => spec_FirstGoodSeveral.l0 k h bars (bars.length : Int) (i + 1)) r) (hs : ∀ x, l.find? (hit h b) = some x → r = (i, x.f0, x.f1, true)) :
    ∀ (d j : Nat), j ≤ l.length → l.length - j = d → l.find? (hit h b) = (l.drop j).find? (hit h b) → Ev (fun k => spec_FirstGoodSeveral.l1 k h i bars (bars.length : Int) i l (l.length : Int) (j : Int) b.f0 b.f1) r := by
  intro d
  induction d with
  | zero =>
    intro j h1 h2 h3
    rw [List.drop_of_length_le (by omega)] at h3
    refine Ev.step (f := fun k => spec_FirstGoodSeveral.l0 k h bars (bars.length : Int) (i + 1)) (fun k => ?_) (hr h3)
    simp only [spec_FirstGoodSeveral.l1]
    rw [if_neg (by omega), wrap_id (by omega) (by omega)]
  | succ d ih =>
    intro j h1 h2 h3
    have hj : j < l.length := by omega
    have er : rd_T31 l (j : Int) = l[j] := by simp [rd_T31, List.getD_eq_getElem?_getD, hj]
    rw [List.drop_eq_getElem_cons hj, List.find?_cons] at h3
    refine Ev.step (f := fun k => if Go.bits .xor .i64 (Go.bits .xor .i64 h (heap b)) (heap l[j]) = 0 then some (i, l[j].f0, l[j].f1, true) else spec_FirstGoodSeveral.l1 k h i bars (bars.length : Int) i l (l.length : Int) ((j + 1 : Nat) : Int) b.f0 b.f1) (fun k => ?_) ?_
    · simp only [spec_FirstGoodSeveral.l1]
      rw [if_pos (by omega), if_pos (by omega), if_pos (by omega), er, wrap_id (by omega) (by omega)]
      rfl
    · by_cases hz : Go.bits .xor .i64 (Go.bits .xor .i64 h (heap b)) (heap l[j]) = 0
      · refine PEv.pos hz ?_
        have hh : hit h b l[j] = true := decide_eq_true hz
        rw [hh] at h3
        rw [hs _ h3]
        exact Ev.now _
      · refine PEv.neg hz ?_
        have hh : hit h b l[j] = false := decide_eq_false hz
        rw [hh] at h3
        exact ih (j + 1) (by omega) (by omega) h3
theorem spec_out (h : Int) (bars : List S31) (hb : bars.length ≤ 8) (hok : bars.all (fun x => ok2 x.f0 x.f1) = true) : ∀ (d i : Nat), i ≤ bars.length → bars.length - i = d → Ev (fun k => spec_FirstGoodSeveral.l0 k h bars (bars.length : Int) (i : Int)) (firstOf h (bars.drop i) (i : Int)) := by
  intro d
  induction d with
  | zero =>
    intro i h1 h2
    rw [List.drop_of_length_le (by omega)]
    exact Ev.step (f := fun _ => some (0, 0, 0, false)) (fun k => by simp only [spec_FirstGoodSeveral.l0]; rw [if_neg (by omega)]) (Ev.now _)
  | succ d ih =>
    intro i h1 h2
    have hi : i < bars.length := by omega
    have er : rd_T31 bars (i : Int) = bars[i] := by simp [rd_T31, List.getD_eq_getElem?_getD, hi]
    have hg := ok2_le (List.all_eq_true.1 hok _ (List.getElem_mem hi))
    rw [List.drop_eq_getElem_cons hi]
    have hk := spec_kept bars[i].f0 bars[i].f1 (by omega) (by omega)
    refine Ev.step (f := fun k => (spec_laKept.f k bars[i].f0 bars[i].f1).bind fun t => spec_FirstGoodSeveral.l1 k h (i : Int) bars (bars.length : Int) (i : Int) t (t.length : Int) 0 bars[i].f0 bars[i].f1) (fun k => ?_) (Ev.bind hk ?_)
    · simp only [spec_FirstGoodSeveral.l0]
      rw [if_pos (by omega), if_pos (by omega), if_pos (by omega), er]
    · refine spec_in h bars (i : Int) bars[i] (keptL bars[i].f0 bars[i].f1) (keptL_length _ _ (by omega) (by omega)) _ (by omega) (fun hn => ?_) (fun x hx => ?_) _ 0 (by omega) rfl (by rw [List.drop_zero])
      · rw [firstOf, hn]
        exact ih (i + 1) (by omega) (by omega)
      · rw [firstOf, hx]
theorem impl_in (h : Int) (bars : List S31) (hh : Ev (fun k => impl_keptHeaps.f k bars) h) (i : Int) (b : S31) (l : List S31) (hl : l.length ≤ 2000) (r : Int × Int × Int × Bool) (hi : 0 ≤ i ∧ i ≤ 10)
    (hr : ∀ _ : l.find? (hit h b) = none, Ev (fun k => impl_FirstGoodSeveral.l0 k bars bars (bars.length : Int) (i + 1)) r) (hs : ∀ x, l.find? (hit h b) = some x → r = (i, x.f0, x.f1, true)) :
    ∀ (d j : Nat), j ≤ l.length → l.length - j = d → l.find? (hit h b) = (l.drop j).find? (hit h b) → Ev (fun k => impl_FirstGoodSeveral.l1 k bars i bars (bars.length : Int) i l (l.length : Int) (j : Int) b.f0 b.f1) r := by
  intro d
  induction d with
  | zero =>
    intro j h1 h2 h3
    rw [List.drop_of_length_le (by omega)] at h3
    refine Ev.step (f := fun k => impl_FirstGoodSeveral.l0 k bars bars (bars.length : Int) (i + 1)) (fun k => ?_) (hr h3)
    simp only [impl_FirstGoodSeveral.l1]
    rw [if_neg (by omega), wrap_id (by omega) (by omega)]
  | succ d ih =>
    intro j h1 h2 h3
    have hj : j < l.length := by omega
    have er : rd_T31 l (j : Int) = l[j] := by simp [rd_T31, List.getD_eq_getElem?_getD, hj]
    rw [List.drop_eq_getElem_cons hj, List.find?_cons] at h3
    refine Ev.step (f := fun k => (impl_keptHeaps.f k bars).bind fun t => if Go.bits .xor .i64 (Go.bits .xor .i64 t (heap b)) (heap l[j]) = 0 then some (i, l[j].f0, l[j].f1, true) else impl_FirstGoodSeveral.l1 k bars i bars (bars.length : Int) i l (l.length : Int) ((j + 1 : Nat) : Int) b.f0 b.f1) (fun k => ?_) (Ev.bind hh ?_)
    · simp only [impl_FirstGoodSeveral.l1]
      rw [if_pos (by omega), if_pos (by omega), if_pos (by omega), er, wrap_id (by omega) (by omega)]
      rfl
    · by_cases hz : Go.bits .xor .i64 (Go.bits .xor .i64 h (heap b)) (heap l[j]) = 0
      · refine PEv.pos hz ?_
        have hh : hit h b l[j] = true := decide_eq_true hz
        rw [hh] at h3
        rw [hs _ h3]
        exact Ev.now _
      · refine PEv.neg hz ?_
        have hh : hit h b l[j] = false := decide_eq_false hz
        rw [hh] at h3
        exact ih (j + 1) (by omega) (by omega) h3
theorem impl_out (h : Int) (bars : List S31) (hh : Ev (fun k => impl_keptHeaps.f k bars) h) (hb : bars.length ≤ 8) (hok : bars.all (fun x => ok2 x.f0 x.f1) = true) : ∀ (d i : Nat), i ≤ bars.length → bars.length - i = d → Ev (fun k => impl_FirstGoodSeveral.l0 k bars bars (bars.length : Int) (i : Int)) (firstOf h (bars.drop i) (i : Int)) := by
  intro d
  induction d with
  | zero =>
    intro i h1 h2
    rw [List.drop_of_length_le (by omega)]
    exact Ev.step (f := fun _ => some (0, 0, 0, false)) (fun k => by simp only [impl_FirstGoodSeveral.l0]; rw [if_neg (by omega)]) (Ev.now _)
  | succ d ih =>
    intro i h1 h2
    have hi : i < bars.length := by omega
    have er : rd_T31 bars (i : Int) = bars[i] := by simp [rd_T31, List.getD_eq_getElem?_getD, hi]
    have hg := ok2_le (List.all_eq_true.1 hok _ (List.getElem_mem hi))
    rw [List.drop_eq_getElem_cons hi]
    have hk := impl_kept bars[i].f0 bars[i].f1 (by omega) (by omega)
    refine Ev.step (f := fun k => (impl_keptMoves.f k bars[i].f0 bars[i].f1).bind fun t => impl_FirstGoodSeveral.l1 k bars (i : Int) bars (bars.length : Int) (i : Int) t (t.length : Int) 0 bars[i].f0 bars[i].f1) (fun k => ?_) (Ev.bind hk ?_)
    · simp only [impl_FirstGoodSeveral.l0]
      rw [if_pos (by omega), if_pos (by omega), if_pos (by omega), er]
    · refine impl_in h bars hh (i : Int) bars[i] (keptL bars[i].f0 bars[i].f1) (keptL_length _ _ (by omega) (by omega)) _ (by omega) (fun hn => ?_) (fun x hx => ?_) _ 0 (by omega) rfl (by rw [List.drop_zero])
      · rw [firstOf, hn]
        exact ih (i + 1) (by omega) (by omega)
      · rw [firstOf, hx]
def firsts (l : List S31) : Int × Int × Int × Bool := if barsOk l then firstOf (xorAll l 0) l 0 else (0, 0, 0, false)
theorem spec_firsts (l : List S31) : Ev (fun k => spec_FirstGoodSeveral.f k l) (firsts l) := by
  unfold spec_FirstGoodSeveral.f firsts
  refine Ev.bind (spec_bars l) ?_
  cases h : barsOk l
  · exact Ev.now _
  · have hb := bars_some h
    have := spec_xor l hb.2.1 l.length 0 0 (by omega) (by omega)
    rw [List.drop_zero] at this
    refine Ev.bind (g := fun k => spec_laSeveral.f k l) this ?_
    have h2 := spec_out (xorAll l 0) l hb.2.1 hb.2.2 l.length 0 (by omega) (by omega)
    rw [List.drop_zero] at h2
    exact h2
theorem impl_firsts (l : List S31) : Ev (fun k => impl_FirstGoodSeveral.f k l) (firsts l) := by
  unfold impl_FirstGoodSeveral.f firsts
  simp only [impl_bars, Option.bind_some]
  cases h : barsOk l
  · exact Ev.now _
  · have hb := bars_some h
    have := impl_xor l hb.2.1 l.length 0 0 (by omega) (by omega)
    rw [List.drop_zero] at this
    have h2 := impl_out (xorAll l 0) l this hb.2.1 hb.2.2 l.length 0 (by omega) (by omega)
    rw [List.drop_zero] at h2
    exact h2
theorem pure (l : List S29) (hl : l.length ≤ 9223372036854775807) : ∃ k, laws_FnExactFirstGoodSeveral.f k l = some true := by
  refine Ev.rounds (r := true) ?_
  unfold laws_FnExactFirstGoodSeveral.f
  simp only [sz l hl, Option.bind_some]
  by_cases h : l.length ≤ 1048576
  · rw [if_pos h]
    refine PEv.neg (by omega) ?_
    refine Ev.bind (toS l h) (Ev.bind (spec_firsts _) (Ev.bind (toS l h) (Ev.bind (impl_firsts _) ?_)))
    refine PEv.pos rfl ?_
    refine Ev.bind (g := fun _ => laws_eqBar.f (firsts (conv l)).2.1 (firsts (conv l)).2.2.1 (firsts (conv l)).2.1 (firsts (conv l)).2.2.1) (a := true) (Ev.congr (fun _ => by simp [laws_eqBar.f]) (Ev.now true)) ?_
    refine PEv.pos rfl ?_
    refine Ev.step (f := fun k => (laws_toBarS.f k l).bind fun t => ((laws_eqBarS.f k (conv l) t).bind fun t2 => (if t2 = true then (some true) else (some false)))) (fun k => by simp only [laws_FnExactFirstGoodSeveral.j0]; rw [if_neg (by simp)]) ?_
    refine Ev.bind (toS l h) (Ev.bind (PBar.eqS (conv l) (by simp [conv]; omega)) ?_)
    exact PEv.pos rfl (Ev.now _)
  · rw [if_neg h]
    exact PEv.pos (by omega) (Ev.now _)

end Go.Proofs.Ytoplnaobaedciaa.OwnFnExactFirstGoodSeveral
