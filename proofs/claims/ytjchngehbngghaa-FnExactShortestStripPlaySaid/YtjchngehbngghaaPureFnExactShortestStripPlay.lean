/- The law FnExactShortestStripPlay, of the printed functions alone. Conditions: as each law states them. -/
import Derived.Test.YtjchngehbngghaaPSx3
import Derived.Test.YtjchngehbngghaaPStrip
namespace Go.Proofs.Ytjchngehbngghaa.Pure
open Go.RowKit Go.Proofs.Ytjchngehbngghaa.PS Go.Proofs.YtjchngehbngghaaW.PrintWords Go.Proofs.YtjchngehbngghaaW.PrintLast Go.Proofs.Ytjchngehbngghaa.PEv Go.Proofs.Ytjchngehbngghaa.PStrip
set_option linter.unusedSimpArgs false
set_option linter.unusedVariables false

namespace XFnExactShortestStripPlay
theorem can_eq (least : Int) (u : Bool) (n i : Int) (hn : 1 ≤ n ∧ n ≤ 60) (hi : 1 ≤ i ∧ i ≤ 100) : impl_rule_can.f least u n i = some (can least u n i) := by
  unfold impl_rule_can.f can
  rw [wrap_in (x := n - i) (by omega) (by omega), wrap_in (x := 2 * i) (by omega) (by omega)]
  by_cases h1 : i ≥ least
  · rw [if_pos h1, decide_eq_true (show least ≤ i from h1)]
    by_cases h2 : n - i ≥ least
    · rw [if_pos h2, decide_eq_true (show least ≤ n - i from h2)]
      cases u
      · rfl
      · by_cases h3 : 2 * i = n
        · simp [h3]
        · simp [h3]
    · rw [if_neg h2, decide_eq_false (show ¬ least ≤ n - i from h2)]; rfl
  · rw [if_neg h1, decide_eq_false (show ¬ least ≤ i from h1)]; rfl
theorem laCan_eq (least : Int) (u : Bool) (n i : Int) (hn : 1 ≤ n ∧ n ≤ 60) (hi : 1 ≤ i ∧ i ≤ 100) : spec_laCan.f n i least u = some (can least u n i) := by
  unfold spec_laCan.f can
  rw [wrap_in (x := n - i) (by omega) (by omega)]
  have hb : (i != n - i) = decide (2 * i ≠ n) := by
    by_cases h3 : 2 * i = n
    · rw [show n - i = i by omega]; simp [h3]
    · have : i ≠ n - i := by omega
      simp [this, h3]
  by_cases h1 : i ≥ least
  · rw [if_pos h1, decide_eq_true (show least ≤ i from h1)]
    by_cases h2 : n - i ≥ least
    · rw [if_pos h2, decide_eq_true (show least ≤ n - i from h2), hb]
      cases u
      · rfl
      · rfl
    · rw [if_neg h2, decide_eq_false (show ¬ least ≤ n - i from h2)]; rfl
  · rw [if_neg h1, decide_eq_false (show ¬ least ≤ i from h1)]; rfl
theorem moves_l (least : Int) (u : Bool) (n : Int) (hn : 1 ≤ n ∧ n ≤ 60) : ∀ (d : Nat) (i : Int) (acc : List Int), 1 ≤ i → i + d ≤ 100 → n < 2 * (i + d) → acc.length + d ≤ 1000 → Ev (fun k => impl_rule_moves.l0 k n acc i least u) (acc ++ mvs least u n d i) := by
  intro d
  induction d with
  | zero =>
    intro i acc h1 h2 h3 h4
    rw [mvs, List.append_nil]
    refine Ev.step (f := fun _ => some acc) (fun k => ?_) (Ev.now _)
    simp only [impl_rule_moves.l0]
    rw [wrap_in (by omega) (by omega), if_neg (by omega)]
  | succ d ih =>
    intro i acc h1 h2 h3 h4
    rw [mvs]
    by_cases hc : 2 * i ≤ n
    · rw [if_pos hc]
      cases hcan : can least u n i with
      | true =>
        rw [if_pos rfl]
        have := ih (i + 1) (acc ++ [i]) (by omega) (by omega) (by omega) (by simp; omega)
        rw [List.append_assoc, List.singleton_append] at this
        refine Ev.step (f := fun k => impl_rule_moves.l0 k n (acc ++ [i]) (i + 1) least u) (fun k => ?_) this
        simp only [impl_rule_moves.l0]
        rw [wrap_in (x := 2 * i) (by omega) (by omega), if_pos hc, can_eq least u n i hn (by omega), hcan, wrap_in (x := i + 1) (by omega) (by omega)]
        simp only [Option.bind_some, if_true]
        rw [if_pos (by omega)]
      | false =>
        rw [if_neg (by simp)]
        have := ih (i + 1) acc (by omega) (by omega) (by omega) (by omega)
        refine Ev.step (f := fun k => impl_rule_moves.l0 k n acc (i + 1) least u) (fun k => ?_) this
        simp only [impl_rule_moves.l0]
        rw [wrap_in (x := 2 * i) (by omega) (by omega), if_pos hc, can_eq least u n i hn (by omega), hcan, wrap_in (x := i + 1) (by omega) (by omega)]
        simp
    · rw [if_neg hc, List.append_nil]
      refine Ev.step (f := fun _ => some acc) (fun k => ?_) (Ev.now _)
      simp only [impl_rule_moves.l0]
      rw [wrap_in (by omega) (by omega), if_neg hc]
theorem moves_ev (least : Int) (u : Bool) (n : Int) (hn : 1 ≤ n ∧ n ≤ 60) : Ev (fun k => impl_rule_moves.f k least u n) (mvs least u n 60 1) := by
  have := moves_l least u n hn 60 1 [] (by omega) (by omega) (by omega) (by simp)
  rw [List.nil_append] at this
  exact Ev.congr (fun k => rfl) this
def better (a b : Int) : Bool := decide (a < b)
section
variable (long least : Int) (u : Bool) (hlong : 1 ≤ long ∧ long ≤ 60)
/-- The program's choice. -/
theorem impl_l1 (out : List Int) (n : Int) (hn : 1 ≤ n ∧ n ≤ 60) (ho : (out.length : Int) = n) (hs : Small out n) (ms : List Int) (hms : ∀ a ∈ ms, 1 ≤ a ∧ 2 * a ≤ n) (hml : ms.length ≤ 60) (r : Int × Bool)
    (hnext : Ev (fun k => impl_play.l0 k long (out ++ [(pick better (pval out n) none ms).getD 0]) (n + 1) least u) r) :
    ∀ (d i : Nat) (s : Option Int), i ≤ ms.length → ms.length - i = d → (s = none ↔ i = 0) → pick better (pval out n) s (ms.drop i) = pick better (pval out n) none ms →
      Ev (fun k => impl_play.l1 k long out n (s.getD 0) ms (ms.length : Int) (i : Int) least u) r := by
  intro d
  induction d with
  | zero =>
    intro i s h1 h2 h3 h4
    rw [List.drop_of_length_le (by omega), pick_nil] at h4
    refine Ev.step (f := fun k => impl_play.l0 k long (out ++ [s.getD 0]) (n + 1) least u) (fun k => ?_) (by rw [h4]; exact hnext)
    simp only [impl_play.l1]
    rw [if_neg (by omega), if_pos (by omega), wrap_in (x := n + 1) (by omega) (by omega)]
  | succ d ih =>
    intro i s h1 h2 h3 h4
    have hi : i < ms.length := by omega
    have er : rd ms (i : Int) = ms[i] := by simp [rd, List.getD_eq_getElem?_getD, hi]
    rw [List.drop_eq_getElem_cons hi, pick_cons] at h4
    have hm := hms _ (List.getElem_mem hi)
    have ih2 := ih (i + 1) _ (by omega) (by omega) (by constructor <;> intro hh <;> first | omega | (exfalso; revert hh; cases s <;> simp)) h4
    obtain ⟨a, haa⟩ : ∃ a, a = ms[i] := ⟨_, rfl⟩
    rw [← haa] at er hm ih2
    clear haa h4
    have hv := pval_in hs hm.1 hm.2
    have hb1 := hs a (by omega) (by omega)
    have hb2 := hs (n - a) (by omega) (by omega)
    have ew : wrap64 (wrap64 (1 + rd out a) + rd out (n - a)) = pval out n a := by
      unfold pval
      rw [wrap_in (x := 1 + rd out a) (by omega) (by omega), wrap_in (by omega) (by omega)]
      omega
    cases s with
    | none =>
      have hi0 : i = 0 := h3.1 rfl
      refine Ev.step (f := fun k => impl_play.l1 k long out n (pval out n a) ms (ms.length : Int) ((i + 1 : Nat) : Int) least u) (fun k => ?_) ih2
      simp only [impl_play.l1]
      rw [if_pos (by omega), if_pos (by omega), if_pos (by omega), er, wrap_in (x := n - a) (by omega) (by omega), ew, if_pos (by omega), if_pos (by omega), if_pos (by omega), if_pos (by omega), if_pos (by omega), wrap_in (x := (i : Int) + 1) (by omega) (by omega)]
      rfl
    | some b =>
      have hi0 : i ≠ 0 := fun e => by have := h3.2 e; cases this
      refine Ev.step (f := fun k => impl_play.l1 k long out n (if better (pval out n a) b then pval out n a else b) ms (ms.length : Int) ((i + 1 : Nat) : Int) least u) (fun k => ?_) ih2
      simp only [impl_play.l1]
      rw [if_pos (by omega), if_pos (by omega), if_pos (by omega), er, wrap_in (x := n - a) (by omega) (by omega), ew, if_pos (by omega), if_pos (by omega), if_pos (by omega), if_pos (by omega), if_neg (by omega), wrap_in (x := (i : Int) + 1) (by omega) (by omega)]
      simp only [impl_ShortestStripPlay_f1.f, Option.bind_some, Option.getD_some]
      unfold better
      by_cases hc : pval out n a < b
      · simp [hc]
      · simp [hc]
theorem impl_l0 : ∀ (d m : Nat), (long.toNat - m = d) → m ≤ long.toNat → 1 ≤ long → long ≤ 60 → Ev (fun k => impl_play.l0 k long (xs better least u m) ((m : Int) + 1) least u) (rd (xs better least u long.toNat) long, true) := by
  intro d
  induction d with
  | zero =>
    intro m h1 h2 h3 h4
    obtain rfl : m = long.toNat := by omega
    have hl := xs_length better least u long.toNat
    refine Ev.step (f := fun _ => some (rd (xs better least u long.toNat) long, true)) (fun k => ?_) (Ev.now _)
    simp only [impl_play.l0]
    rw [if_neg (by omega), if_pos (by omega), if_pos (by omega)]
  | succ d ih =>
    intro m h1 h2 h3 h4
    have hl := xs_length better least u m
    have hs := xs_small better least u m
    have hnext := ih (m + 1) (by omega) (by omega) h3 h4
    rw [xs] at hnext
    have := impl_l1 long least u (xs better least u m) ((m : Int) + 1) (by omega) (by omega) hs (mvs least u ((m : Int) + 1) 60 1) (fun a ha => mvs_mem _ _ _ ha) (mvs_length _ _) _ hnext _ 0 none (by omega) rfl (by simp) rfl
    refine Ev.step (f := fun k => (impl_rule_moves.f k least u ((m : Int) + 1)).bind fun t => impl_play.l1 k long (xs better least u m) ((m : Int) + 1) 0 t (t.length : Int) 0 least u) (fun k => ?_) (Ev.bind (moves_ev least u ((m : Int) + 1) (by omega)) this)
    simp only [impl_play.l0]
    rw [if_pos (by omega)]
/-- The reference's table T, before n. -/
def Tab (out T : List Int) (n v : Int) : Prop := (T.length : Int) = long + 1 ∧ (∀ j, 0 ≤ j → j < n → rd T j = rd out j) ∧ rd T n = v ∧ ∀ j, n < j → j ≤ long → rd T j = 0
theorem spec_l1 (out : List Int) (n : Int) (hlong : 1 ≤ long ∧ long ≤ 60) (hn : 1 ≤ n ∧ n ≤ long) (hs : Small out n) (r : List Int → Prop)
    (hnext : ∀ T, Tab long out T n ((pick better (pval out n) none (mvs least u n 60 1)).getD 0) → ∃ R, r R ∧ Ev (fun k => spec_laPlay.l0 k long least u false T (n + 1)) R) :
    ∀ (d : Nat) (i : Int) (s : Option Int) (T : List Int), 1 ≤ i → i + d ≤ 100 → n < 2 * (i + d) → Tab long out T n (s.getD 0) → pick better (pval out n) s (mvs least u n d i) = pick better (pval out n) none (mvs least u n 60 1) →
      ∃ R, r R ∧ Ev (fun k => spec_laPlay.l1 k long least u false T n s.isSome i) R := by
  intro d
  induction d with
  | zero =>
    intro i s T h1 h2 h3 hT h4
    rw [mvs, pick_nil] at h4
    rw [h4] at hT
    obtain ⟨R, hr, hR⟩ := hnext T hT
    refine ⟨R, hr, Ev.step (f := fun k => spec_laPlay.l0 k long least u false T (n + 1)) (fun k => ?_) hR⟩
    simp only [spec_laPlay.l1]
    rw [wrap_in (x := 2 * i) (by omega) (by omega), if_neg (by omega), wrap_in (x := n + 1) (by omega) (by omega)]
  | succ d ih =>
    intro i s T h1 h2 h3 hT h4
    rw [mvs] at h4
    by_cases hc : 2 * i ≤ n
    · rw [if_pos hc] at h4
      have hcan := laCan_eq least u n i (by omega) (by omega)
      cases hq : can least u n i with
      | true =>
        rw [hq] at hcan
        rw [hq, if_pos rfl, pick_cons] at h4
        have hv := pval_in hs h1 hc
        have hb1 := hs i (by omega) (by omega)
        have hb2 := hs (n - i) (by omega) (by omega)
        have e1 : rd T i = rd out i := hT.2.1 i (by omega) (by omega)
        have e2 : rd T (n - i) = rd out (n - i) := hT.2.1 (n - i) (by omega) (by omega)
        have hl := hT.1
        have ew : wrap64 (wrap64 (rd T i + rd T (n - i)) + 1) = pval out n i := by
          rw [e1, e2]
          unfold pval
          rw [wrap_in (x := rd out i + rd out (n - i)) (by omega) (by omega), wrap_in (by omega) (by omega)]
        have hset : ∀ v, Tab long out (T.set n.toNat v) n v := fun v => by
          refine ⟨by rw [List.length_set]; exact hl, fun j g1 g2 => ?_, ?_, fun j g1 g2 => ?_⟩
          · rw [rd_set (by omega) (by omega) g1, if_neg (by omega)]; exact hT.2.1 j g1 g2
          · rw [rd_set (by omega) (by omega) (by omega), if_pos rfl]
          · rw [rd_set (by omega) (by omega) (by omega), if_neg (by omega)]; exact hT.2.2.2 j g1 g2
        cases s with
        | none =>
          obtain ⟨R, hr, hR⟩ := ih (i + 1) (some (pval out n i)) _ (by omega) (by omega) (by omega) (hset (pval out n i)) h4
          refine ⟨R, hr, Ev.step (f := fun k => spec_laPlay.l1 k long least u false (T.set n.toNat (pval out n i)) n true (i + 1)) (fun k => ?_) hR⟩
          simp only [spec_laPlay.l1]
          rw [wrap_in (x := 2 * i) (by omega) (by omega), if_pos hc, hcan, wrap_in (x := n - i) (by omega) (by omega), ew, wrap_in (x := i + 1) (by omega) (by omega)]
          simp only [Option.bind_some, if_true, Option.isSome_none, Bool.false_eq_true, if_false]
          rw [if_pos (by omega), if_pos (by omega), if_pos (by omega), if_pos (by omega), if_pos (by omega), if_pos (by omega)]
        | some b =>
          have hTn : rd T n = b := hT.2.2.1
          by_cases hbt : better (pval out n i) b = true
          · simp only [hbt, if_true] at h4
            obtain ⟨R, hr, hR⟩ := ih (i + 1) (some (pval out n i)) _ (by omega) (by omega) (by omega) (hset (pval out n i)) h4
            refine ⟨R, hr, Ev.step (f := fun k => spec_laPlay.l1 k long least u false (T.set n.toNat (pval out n i)) n true (i + 1)) (fun k => ?_) hR⟩
            have hbt2 : pval out n i < b := by simpa [better] using hbt
            simp only [spec_laPlay.l1]
            rw [wrap_in (x := 2 * i) (by omega) (by omega), if_pos hc, hcan, wrap_in (x := n - i) (by omega) (by omega), ew, wrap_in (x := i + 1) (by omega) (by omega), hTn]
            simp only [Option.bind_some, if_true, Option.isSome_some, Bool.false_eq_true, if_false]
            rw [if_pos (by omega), if_pos (by omega), if_pos (by omega), if_pos (by omega), if_pos (by omega), if_pos (by omega), if_pos (by omega)]
          · simp only [hbt, if_false] at h4
            obtain ⟨R, hr, hR⟩ := ih (i + 1) (some b) T (by omega) (by omega) (by omega) hT (by simpa using h4)
            refine ⟨R, hr, Ev.step (f := fun k => spec_laPlay.l1 k long least u false T n true (i + 1)) (fun k => ?_) hR⟩
            have hbt2 : ¬ (pval out n i < b) := by simpa [better] using hbt
            simp only [spec_laPlay.l1]
            rw [wrap_in (x := 2 * i) (by omega) (by omega), if_pos hc, hcan, wrap_in (x := n - i) (by omega) (by omega), ew, wrap_in (x := i + 1) (by omega) (by omega), hTn]
            simp only [Option.bind_some, if_true, Option.isSome_some, Bool.false_eq_true, if_false]
            rw [if_pos (by omega), if_pos (by omega), if_pos (by omega), if_pos (by omega), if_pos (by omega), if_pos (by omega), if_neg (by omega)]
      | false =>
        rw [hq] at hcan
        rw [hq, if_neg (by simp)] at h4
        obtain ⟨R, hr, hR⟩ := ih (i + 1) s T (by omega) (by omega) (by omega) hT h4
        refine ⟨R, hr, Ev.step (f := fun k => spec_laPlay.l1 k long least u false T n s.isSome (i + 1)) (fun k => ?_) hR⟩
        simp only [spec_laPlay.l1]
        rw [wrap_in (x := 2 * i) (by omega) (by omega), if_pos hc, hcan, wrap_in (x := i + 1) (by omega) (by omega)]
        simp
    · rw [if_neg hc, pick_nil] at h4
      rw [h4] at hT
      obtain ⟨R, hr, hR⟩ := hnext T hT
      refine ⟨R, hr, Ev.step (f := fun k => spec_laPlay.l0 k long least u false T (n + 1)) (fun k => ?_) hR⟩
      simp only [spec_laPlay.l1]
      rw [wrap_in (x := 2 * i) (by omega) (by omega), if_neg hc, wrap_in (x := n + 1) (by omega) (by omega)]
theorem spec_l0 (hlong : 1 ≤ long ∧ long ≤ 60) : ∀ (d m : Nat) (T : List Int), (long.toNat - m = d) → m ≤ long.toNat → (T.length : Int) = long + 1 → (∀ j, 0 ≤ j → j < (m : Int) + 1 → rd T j = rd (xs better least u m) j) → (∀ j, (m : Int) < j → j ≤ long → rd T j = 0) →
    ∃ R : List Int, ((R.length : Int) = long + 1 ∧ rd R long = rd (xs better least u long.toNat) long) ∧ Ev (fun k => spec_laPlay.l0 k long least u false T ((m : Int) + 1)) R := by
  intro d
  induction d with
  | zero =>
    intro m T h1 h2 h3 h4 h5
    obtain rfl : m = long.toNat := by omega
    refine ⟨T, ⟨h3, h4 long (by omega) (by omega)⟩, Ev.step (f := fun _ => some T) (fun k => ?_) (Ev.now _)⟩
    simp only [spec_laPlay.l0]
    rw [if_neg (by omega)]
  | succ d ih =>
    intro m T h1 h2 h3 h4 h5
    have hl := xs_length better least u m
    have hs := xs_small better least u m
    obtain ⟨R, hr, hR⟩ := spec_l1 long least u (xs better least u m) ((m : Int) + 1) hlong (by omega) hs (fun R => (R.length : Int) = long + 1 ∧ rd R long = rd (xs better least u long.toNat) long) (fun T' hT' => by
      refine ih (m + 1) T' (by omega) (by omega) hT'.1 (fun j g1 g2 => ?_) (fun j g1 g2 => hT'.2.2.2 j (by omega) g2)
      rw [xs, rd_app g1, hl]
      split
      · exact hT'.2.1 j g1 (by omega)
      · rw [if_pos (by omega)]
        have : j = (m : Int) + 1 := by omega
        rw [this]
        exact hT'.2.2.1) 60 1 none T (by omega) (by omega) (by omega) ⟨h3, fun j g1 g2 => h4 j g1 g2, h5 _ (by omega) (by omega), fun j g1 g2 => h5 j (by omega) g2⟩ rfl
    refine ⟨R, hr, Ev.step (f := fun k => spec_laPlay.l1 k long least u false T ((m : Int) + 1) false 1) (fun k => ?_) hR⟩
    simp only [spec_laPlay.l0]
    rw [if_pos (by omega)]
end
theorem isStrip (a : Int) : impl_isStrip.f a = some (decide (1 ≤ a ∧ a ≤ 60)) := by
  unfold impl_isStrip.f impl_within.f
  by_cases h : 1 ≤ a
  · simp [h]
  · simp [h]
theorem laStrip (a b : Int) : spec_laStrip.f a b = some (decide ((1 ≤ a ∧ a ≤ 60) ∧ (1 ≤ b ∧ b ≤ 60))) := by
  unfold spec_laStrip.f spec_l1In.f
  by_cases h : 1 ≤ a
  · by_cases h2 : a ≤ 60
    · by_cases h3 : 1 ≤ b
      · simp [h, h2, h3]
      · simp [h, h2, h3]
    · simp [h, h2]
  · simp [h]
/-- What both answer. -/
def res (a b : Int) (u : Bool) : Int × Bool := if (1 ≤ a ∧ a ≤ 60) ∧ (1 ≤ b ∧ b ≤ 60) then (rd (xs better b u a.toNat) a, true) else (0, false)
theorem spec_ev (a b : Int) (u : Bool) : Ev (fun k => spec_ShortestStripPlay.f k a b u) (res a b u) := by
  unfold res
  by_cases h : (1 ≤ a ∧ a ≤ 60) ∧ (1 ≤ b ∧ b ≤ 60)
  · rw [if_pos h]
    obtain ⟨R, hr, hR⟩ := spec_l0 a b u h.1 _ 0 (List.replicate (a + 1).toNat 0) rfl (by omega) (by rw [List.length_replicate]; omega) (fun j g1 g2 => by
      rw [rd_rep]
      have : j = 0 := by omega
      subst this
      rfl) (fun j _ _ => rd_rep _ _)
    have hp : Ev (fun k => spec_laPlay.f k a b u false) R := Ev.congr (fun k => by
      unfold spec_laPlay.f
      rw [wrap_in (x := a + 1) (by omega) (by omega), if_pos (by omega), if_pos (by omega)]
      rfl) hR
    simp only [spec_ShortestStripPlay.f, laStrip, decide_eq_true h, Option.bind_some, if_true]
    refine Ev.bind hp (Ev.congr (fun k => ?_) (Ev.now _))
    rw [if_pos (by omega), if_pos (by omega), hr.2]
  · rw [if_neg h]
    refine Ev.congr (fun k => ?_) (Ev.now _)
    unfold spec_ShortestStripPlay.f
    rw [laStrip, decide_eq_false h]
    rfl
theorem impl_ev (a b : Int) (u : Bool) : Ev (fun k => impl_ShortestStripPlay.f k a b u) (res a b u) := by
  have hj : Ev (fun k => impl_play.f k a b u) (res a b u) := by
    unfold res
    by_cases h1 : 1 ≤ a ∧ a ≤ 60
    · by_cases h2 : 1 ≤ b ∧ b ≤ 60
      · rw [if_pos ⟨h1, h2⟩]
        have := impl_l0 a b u _ 0 rfl (by omega) h1.1 h1.2
        refine Ev.congr (fun k => ?_) (Ev.step (g := fun k => impl_play.j0 k a b u false) (f := fun k => impl_play.l0 k a [0] 1 b u) (fun k => ?_) this)
        · unfold impl_play.f
          rw [isStrip, isStrip, decide_eq_true h1, decide_eq_true h2]
          rfl
        · simp only [impl_play.j0]
          rw [if_neg (by simp)]
      · rw [if_neg (fun h => h2 h.2)]
        refine Ev.congr (fun k => ?_) (Ev.step (g := fun k => impl_play.j0 k a b u true) (f := fun k => some (0, false)) (fun k => ?_) (Ev.now _))
        · unfold impl_play.f
          rw [isStrip, isStrip, decide_eq_true h1, decide_eq_false h2]
          rfl
        · simp only [impl_play.j0]
          rw [if_pos trivial]
    · rw [if_neg (fun h => h1 h.1)]
      refine Ev.congr (fun k => ?_) (Ev.step (g := fun k => impl_play.j0 k a b u true) (f := fun k => some (0, false)) (fun k => ?_) (Ev.now _))
      · unfold impl_play.f
        rw [isStrip, decide_eq_false h1]
        rfl
      · simp only [impl_play.j0]
        rw [if_pos trivial]
  exact Ev.congr (fun k => rfl) (Ev.bind hj (Ev.now _))
end XFnExactShortestStripPlay
theorem FnExactShortestStripPlay : laws_FnExactShortestStripPlay.Pure := by
  intro a b u _ _
  refine Ev.rounds (r := true) ?_
  unfold laws_FnExactShortestStripPlay.f
  refine Ev.bind (XFnExactShortestStripPlay.spec_ev a b u) (Ev.bind (XFnExactShortestStripPlay.impl_ev a b u) ?_)
  exact pos rfl (neg (by simp) (Ev.now _))

end Go.Proofs.Ytjchngehbngghaa.Pure
