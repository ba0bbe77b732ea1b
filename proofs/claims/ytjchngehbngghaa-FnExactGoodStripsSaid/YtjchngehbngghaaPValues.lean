/- Plain facts on strips: the values of all strips, of the printed functions. Conditions: as each law states them. -/
import Derived.Test.YtjchngehbngghaaAx3
import Derived.Test.YtjchngehbngghaaGValues
import Derived.Test.YtjchngehbngghaaPMoves
namespace Go.Proofs.Ytjchngehbngghaa.PValues
open Go.RowKit Go.Proofs.Ytjchngehbngghaa.All Go.Proofs.YtjchngehbngghaaW.PrintWords Go.Proofs.YtjchngehbngghaaW.PrintLast Go.Proofs.Ytjchngehbngghaa.PEv Go.Proofs.Ytjchngehbngghaa.PStrip Go.Proofs.Ytjchngehbngghaa.PMoves
set_option linter.unusedSimpArgs false
set_option linter.unusedVariables false

theorem has_go (S : List Int) (x : Int) (hl : S.length ≤ 1000000) : ∀ (d i : Nat), i ≤ S.length → S.length - i = d → Ev (fun k => spec_l1Has.l0 k x S (S.length : Int) (i : Int)) (decide (x ∈ S.drop i)) := by
  intro d
  induction d with
  | zero =>
    intro i h1 h2
    rw [List.drop_of_length_le (by omega)]
    refine Ev.step (f := fun _ => some false) (fun k => ?_) (Ev.now _)
    simp only [spec_l1Has.l0]
    rw [if_neg (by omega)]
  | succ d ih =>
    intro i h1 h2
    have hi : i < S.length := by omega
    have er : rd S (i : Int) = S[i] := by simp [rd, List.getD_eq_getElem?_getD, hi]
    rw [List.drop_eq_getElem_cons hi]
    by_cases e : S[i] = x
    · refine Ev.step (f := fun _ => some true) (fun k => ?_) (by rw [decide_eq_true (show x ∈ S[i] :: S.drop (i + 1) by simp [e])]; exact Ev.now _)
      simp only [spec_l1Has.l0]
      rw [if_pos (by omega), if_pos (by omega), if_pos (by omega), er, if_pos e]
    · have e2 : decide (x ∈ S[i] :: S.drop (i + 1)) = decide (x ∈ S.drop (i + 1)) := by
        have : ¬ x = S[i] := fun h => e h.symm
        exact decide_eq_decide.2 (by rw [List.mem_cons]; exact ⟨fun h => h.resolve_left this, .inr⟩)
      rw [e2]
      refine Ev.step (f := fun k => spec_l1Has.l0 k x S (S.length : Int) ((i + 1 : Nat) : Int)) (fun k => ?_) (ih (i + 1) (by omega) (by omega))
      simp only [spec_l1Has.l0]
      rw [if_pos (by omega), if_pos (by omega), if_pos (by omega), er, if_neg e, wrap_in (x := (i : Int) + 1) (by omega) (by omega)]
      rfl
theorem has_ev (S : List Int) (x : Int) (hl : S.length ≤ 1000000) : Ev (fun k => spec_l1Has.f k S x) (decide (x ∈ S)) := Ev.congr (fun k => rfl) (has_go S x hl S.length 0 (by omega) (by omega))
theorem least_ex (S : List Int) : ∀ d : Nat, (∃ v : Nat, v ≤ d ∧ (v : Int) ∉ S) → ∃ V : Nat, V ≤ d ∧ (V : Int) ∉ S ∧ ∀ j : Nat, j < V → (j : Int) ∈ S
  | 0, ⟨v, h1, h2⟩ => ⟨v, h1, h2, fun j hj => by omega⟩
  | d + 1, ⟨v, h1, h2⟩ => by
    by_cases h : ∃ v : Nat, v ≤ d ∧ (v : Int) ∉ S
    · obtain ⟨V, a, b, c⟩ := least_ex S d h
      exact ⟨V, by omega, b, c⟩
    · refine ⟨v, h1, h2, fun j hj => ?_⟩
      by_cases hj2 : (j : Int) ∈ S
      · exact hj2
      · exact absurd ⟨j, by omega, hj2⟩ h
theorem mex_ex (S : List Int) (hl : S.length ≤ 60) : ∃ V : Nat, V ≤ 60 ∧ mex S = V ∧ (V : Int) ∉ S ∧ ∀ j : Nat, j < V → (j : Int) ∈ S := by
  obtain ⟨V, a, b, c⟩ := least_ex S S.length (by
    refine Classical.byContradiction fun h => ?_
    have := pigeon (S.length + 1) S (fun j hj => Classical.byContradiction fun hn => h ⟨j, by omega, hn⟩)
    omega)
  exact ⟨V, by omega, mex_eq c b (by omega), b, c⟩
section
variable (long least : Int) (u : Bool)
def Tab (out T : List Int) (n v : Int) : Prop := (T.length : Int) = long + 1 ∧ (∀ j, 0 ≤ j → j < n → rd T j = rd out j) ∧ rd T n = v ∧ ∀ j, n < j → j ≤ long → rd T j = 0
theorem tab_set {out T : List Int} {n v v' : Int} (hn : 1 ≤ n ∧ n ≤ long) (hT : Tab long out T n v) : Tab long out (T.set n.toNat v') n v' := by
  have hl := hT.1
  refine ⟨by rw [List.length_set]; exact hl, fun j g1 g2 => ?_, ?_, fun j g1 g2 => ?_⟩
  · rw [rd_set (by omega) (by omega) g1, if_neg (by omega)]; exact hT.2.1 j g1 g2
  · rw [rd_set (by omega) (by omega) (by omega), if_pos rfl]
  · rw [rd_set (by omega) (by omega) (by omega), if_neg (by omega)]; exact hT.2.2.2 j g1 g2
theorem l2_ev (out S : List Int) (n : Int) (hlong : 1 ≤ long ∧ long ≤ 60) (hn : 1 ≤ n ∧ n ≤ long) (hS : S.length ≤ 60) (V : Nat) (hV : V ≤ 60) (hno : (V : Int) ∉ S) (hin : ∀ j : Nat, j < V → (j : Int) ∈ S) (r : List Int)
    (hnext : ∀ T, Tab long out T n V → Ev (fun k => spec_laValues.l0 k long least u T (n + 1)) r) :
    ∀ (d v : Nat) (T : List Int), v ≤ V → V - v = d → Tab long out T n v → Ev (fun k => spec_laValues.l2 k long least u T n S) r := by
  intro d
  induction d with
  | zero =>
    intro v T h1 h2 hT
    obtain rfl : v = V := by omega
    have hl := hT.1
    have hh := has_ev S (v : Int) (by omega)
    rw [decide_eq_false hno] at hh
    refine Ev.step (f := fun k => (spec_l1Has.f k S (v : Int)).bind fun t => if t = true then spec_laValues.l2 k long least u (T.set n.toNat (wrap64 ((v : Int) + 1))) n S else spec_laValues.l0 k long least u T (wrap64 (n + 1))) (fun k => ?_) (Ev.bind hh (neg (by simp) ?_))
    · simp only [spec_laValues.l2]
      rw [if_pos (by omega), if_pos (by omega), hT.2.2.1]
    · rw [wrap_in (x := n + 1) (by omega) (by omega)]
      exact hnext T hT
  | succ d ih =>
    intro v T h1 h2 hT
    have hl := hT.1
    have hh := has_ev S (v : Int) (by omega)
    rw [decide_eq_true (hin v (by omega))] at hh
    refine Ev.step (f := fun k => (spec_l1Has.f k S (v : Int)).bind fun t => if t = true then spec_laValues.l2 k long least u (T.set n.toNat (wrap64 ((v : Int) + 1))) n S else spec_laValues.l0 k long least u T (wrap64 (n + 1))) (fun k => ?_) (Ev.bind hh (pos rfl ?_))
    · simp only [spec_laValues.l2]
      rw [if_pos (by omega), if_pos (by omega), hT.2.2.1]
    · rw [wrap_in (x := (v : Int) + 1) (by omega) (by omega)]
      exact ih (v + 1) _ (by omega) (by omega) (tab_set long hn hT)
theorem l1_ev (out T : List Int) (n v : Int) (hlong : 1 ≤ long ∧ long ≤ 60) (hn : 1 ≤ n ∧ n ≤ long) (hT : Tab long out T n v) (r : List Int)
    (hnext : Ev (fun k => spec_laValues.l2 k long least u T n ((mvs least u n 60 1).map (xr out n))) r) :
    ∀ (d : Nat) (i : Int) (acc : List Int), 1 ≤ i → i + d ≤ 100 → n < 2 * (i + d) → acc.length + d ≤ 1000 → acc ++ (mvs least u n d i).map (xr out n) = (mvs least u n 60 1).map (xr out n) → Ev (fun k => spec_laValues.l1 k long least u T n acc i) r := by
  intro d
  induction d with
  | zero =>
    intro i acc h1 h2 h3 h4 h5
    rw [mvs, List.map_nil, List.append_nil] at h5
    rw [← h5] at hnext
    refine Ev.step (f := fun k => spec_laValues.l2 k long least u T n acc) (fun k => ?_) hnext
    simp only [spec_laValues.l1]
    rw [wrap_in (x := 2 * i) (by omega) (by omega), if_neg (by omega)]
  | succ d ih =>
    intro i acc h1 h2 h3 h4 h5
    rw [mvs] at h5
    by_cases hc : 2 * i ≤ n
    · rw [if_pos hc] at h5
      have hcan := laCan_eq least u n i (by omega) (by omega)
      cases hq : can least u n i with
      | true =>
        rw [hq] at hcan
        rw [hq, if_pos rfl, List.map_cons] at h5
        have e1 : rd T i = rd out i := hT.2.1 i (by omega) (by omega)
        have e2 : rd T (n - i) = rd out (n - i) := hT.2.1 (n - i) (by omega) (by omega)
        have hl := hT.1
        refine Ev.step (f := fun k => spec_laValues.l1 k long least u T n (acc ++ [xr out n i]) (i + 1)) (fun k => ?_) (ih (i + 1) (acc ++ [xr out n i]) (by omega) (by omega) (by omega) (by simp; omega) (by rw [List.append_assoc, List.singleton_append]; exact h5))
        simp only [spec_laValues.l1]
        rw [wrap_in (x := 2 * i) (by omega) (by omega), if_pos hc, hcan, wrap_in (x := n - i) (by omega) (by omega), wrap_in (x := i + 1) (by omega) (by omega), e1, e2]
        simp only [Option.bind_some, if_true]
        rw [if_pos (by omega), if_pos (by omega), if_pos (by omega), if_pos (by omega), if_pos (by omega)]
        rfl
      | false =>
        rw [hq] at hcan
        rw [hq, if_neg (by simp)] at h5
        refine Ev.step (f := fun k => spec_laValues.l1 k long least u T n acc (i + 1)) (fun k => ?_) (ih (i + 1) acc (by omega) (by omega) (by omega) (by omega) h5)
        simp only [spec_laValues.l1]
        rw [wrap_in (x := 2 * i) (by omega) (by omega), if_pos hc, hcan, wrap_in (x := i + 1) (by omega) (by omega)]
        simp
    · rw [if_neg hc, List.map_nil, List.append_nil] at h5
      rw [← h5] at hnext
      refine Ev.step (f := fun k => spec_laValues.l2 k long least u T n acc) (fun k => ?_) hnext
      simp only [spec_laValues.l1]
      rw [wrap_in (x := 2 * i) (by omega) (by omega), if_neg hc]
theorem l0_ev (hlong : 1 ≤ long ∧ long ≤ 60) : ∀ (d m : Nat) (T : List Int), (long.toNat - m = d) → m ≤ long.toNat → (T.length : Int) = long + 1 → (∀ j, 0 ≤ j → j < (m : Int) + 1 → rd T j = rd (vs least u m) j) → (∀ j, (m : Int) < j → j ≤ long → rd T j = 0) →
    Ev (fun k => spec_laValues.l0 k long least u T ((m : Int) + 1)) (vs least u long.toNat) := by
  intro d
  induction d with
  | zero =>
    intro m T h1 h2 h3 h4 h5
    obtain rfl : m = long.toNat := by omega
    have hvl := vs_length least u long.toNat
    have e : T = vs least u long.toNat := by
      refine List.ext_getElem (by omega) fun j g1 g2 => ?_
      have := h4 (j : Int) (by omega) (by omega)
      simpa [rd, List.getD_eq_getElem?_getD, g1, g2] using this
    refine Ev.step (f := fun _ => some (vs least u long.toNat)) (fun k => ?_) (Ev.now _)
    simp only [spec_laValues.l0]
    rw [if_neg (by omega), e]
  | succ d ih =>
    intro m T h1 h2 h3 h4 h5
    have hl := vs_length least u m
    obtain ⟨V, hV, hmx, hno, hin⟩ := mex_ex ((mvs least u ((m : Int) + 1) 60 1).map (xr (vs least u m) ((m : Int) + 1))) (by rw [List.length_map]; exact mvs_length _ _)
    have hT : Tab long (vs least u m) T ((m : Int) + 1) 0 := ⟨h3, h4, h5 _ (by omega) (by omega), fun j g1 g2 => h5 j (by omega) g2⟩
    have h6 := l2_ev long least u (vs least u m) _ ((m : Int) + 1) hlong (by omega) (by rw [List.length_map]; exact mvs_length _ _) V hV hno hin (vs least u long.toNat) (fun T' hT' => by
      refine ih (m + 1) T' (by omega) (by omega) hT'.1 (fun j g1 g2 => ?_) (fun j g1 g2 => hT'.2.2.2 j (by omega) g2)
      rw [vs, rd_app g1, hl, hmx]
      split
      · exact hT'.2.1 j g1 (by omega)
      · rw [if_pos (by omega)]
        have : j = (m : Int) + 1 := by omega
        rw [this]
        exact hT'.2.2.1) _ 0 T (by omega) rfl hT
    have h7 := l1_ev long least u (vs least u m) T ((m : Int) + 1) 0 hlong (by omega) hT _ h6 60 1 [] (by omega) (by omega) (by omega) (by simp) rfl
    refine Ev.step (f := fun k => spec_laValues.l1 k long least u T ((m : Int) + 1) [] 1) (fun k => ?_) h7
    simp only [spec_laValues.l0]
    rw [if_pos (by omega)]
theorem laValues_ev (hlong : 1 ≤ long ∧ long ≤ 60) : Ev (fun k => spec_laValues.f k long least u) (vs least u long.toNat) := by
  refine Ev.congr (fun k => ?_) (l0_ev long least u hlong _ 0 (List.replicate (long + 1).toNat 0) rfl (by omega) (by rw [List.length_replicate]; omega) (fun j g1 g2 => by
    rw [rd_rep]
    have : j = 0 := by omega
    subst this
    rfl) (fun j _ _ => rd_rep _ _))
  unfold spec_laValues.f
  rw [wrap_in (x := long + 1) (by omega) (by omega), if_pos (by omega), if_pos (by omega)]
  rfl
theorem values_eq (hlong : 0 ≤ long ∧ long ≤ 60) (k : Nat) : impl_rule_values.f k least u long = some (vs least u long.toNat) := by
  unfold impl_rule_values.f
  rw [if_pos hlong]
theorem values_ev (hlong : 0 ≤ long ∧ long ≤ 60) : Ev (fun k => impl_rule_values.f k least u long) (vs least u long.toNat) := Ev.congr (fun k => values_eq long least u hlong k) (Ev.now _)
end

end Go.Proofs.Ytjchngehbngghaa.PValues
