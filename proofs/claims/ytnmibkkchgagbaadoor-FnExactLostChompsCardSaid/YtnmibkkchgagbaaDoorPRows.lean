/- What the laws' helpers answer on lists of lists of whole numbers: a list equals itself; what has been marked is held. Conditions: as each law states them. -/
import Derived.Test.YtnmibkkchgagbaaDoorAx3
import Derived.Test.YtnmibkkchgagbaaDoorGMark
import Derived.Test.YtnmibkkchgagbaaDoorPInt
namespace Go.Proofs.YtnmibkkchgagbaaDoor.PRows
open Go.RowKit Go.Proofs.YtnmibkkchgagbaaDoor.All Go.Proofs.YtnmibkkchgagbaaDoorW.PrintWords Go.Proofs.YtnmibkkchgagbaaDoorW.PrintLast Go.Proofs.YtnmibkkchgagbaaDoor.PEv
set_option linter.unusedVariables false
set_option linter.unusedSimpArgs false

/-- K, K + 1, .. : n numbers. -/
def sq (K : Int) (n : Nat) : List Int := (List.range n).map (fun (j : Nat) => K + (j : Int))
theorem sq_length (K : Int) (n : Nat) : (sq K n).length = n := by simp [sq]
theorem sq_succ (K : Int) (n : Nat) : sq K (n + 1) = sq K n ++ [K + (n : Int)] := by simp [sq, List.range_succ]
theorem sq_at (K : Int) {n j : Nat} (h : j < n) : rd (sq K n) (j : Int) = K + (j : Int) := by
  unfold rd sq
  rw [Int.toNat_natCast, List.getD_eq_getElem?_getD, List.getElem?_map, List.getElem?_range h]
  rfl
theorem mark_go (K : Int) (h0 : 0 ≤ K) (h1 : K ≤ 1000000000000) (l : List Int) (hl : l.length ≤ 4000000) : ∀ (d i : Nat), i ≤ l.length → l.length - i = d → Ev (fun k => laws_markIntS.l0 k (sq K i ++ l.drop i) (K + (i : Int)) (i : Int)) (K + (l.length : Int), sq K l.length) := by
  intro d
  induction d with
  | zero =>
    intro i h2 h3
    obtain rfl : i = l.length := by omega
    rw [List.drop_of_length_le (Nat.le_refl _), List.append_nil]
    refine Ev.step (f := fun _ => some (K + (l.length : Int), sq K l.length)) (fun k => ?_) (Ev.now _)
    simp only [laws_markIntS.l0]
    rw [if_neg (by rw [sq_length]; omega)]
  | succ d ih =>
    intro i h2 h3
    have hi : i < l.length := by omega
    refine Ev.step (f := fun k => laws_markIntS.l0 k (sq K (i + 1) ++ l.drop (i + 1)) (K + ((i + 1 : Nat) : Int)) ((i + 1 : Nat) : Int)) (fun k => ?_) (ih (i + 1) (by omega) (by omega))
    simp only [laws_markIntS.l0]
    rw [if_pos (by rw [List.length_append, sq_length, List.length_drop]; omega), if_pos (by omega), wrap_in (x := K + (i : Int) + 1) (by omega) (by omega), wrap_in (x := (i : Int) + 1) (by omega) (by omega), show (K + (i : Int) + 1) = K + ((i + 1 : Nat) : Int) by omega, Int.toNat_natCast]
    congr 1
    rw [List.drop_eq_getElem_cons hi, List.set_append_right _ _ (by rw [sq_length]; omega), sq_length, Nat.sub_self, List.set_cons_zero, sq_succ, List.append_assoc]
    rfl
theorem marked (K : Int) (h0 : 0 ≤ K) (h1 : K ≤ 1000000000000) (l : List Int) (hl : l.length ≤ 4000000) : Ev (fun k => laws_markIntS.f k l K) (K + (l.length : Int), sq K l.length) := by
  have := mark_go K h0 h1 l hl l.length 0 (Nat.zero_le _) (by omega)
  refine Ev.congr (fun k => ?_) this
  show laws_markIntS.f k l K = laws_markIntS.l0 k (sq K 0 ++ l.drop 0) (K + ((0 : Nat) : Int)) ((0 : Nat) : Int)
  have e : sq K 0 ++ l.drop 0 = l := by simp [sq]
  rw [e, show K + ((0 : Nat) : Int) = K by omega]
  rfl
theorem held_go (K : Int) (h0 : 0 ≤ K) (h1 : K ≤ 1000000000000) (n : Nat) (hn : n ≤ 4000000) : ∀ (d i : Nat), i ≤ n → n - i = d → Ev (fun k => laws_heldIntS.l0 k (sq K n) (K + (i : Int)) (i : Int)) (K + (n : Int)) := by
  intro d
  induction d with
  | zero =>
    intro i h2 h3
    obtain rfl : i = n := by omega
    refine Ev.step (f := fun _ => some (K + (i : Int))) (fun k => ?_) (Ev.now _)
    simp only [laws_heldIntS.l0]
    rw [if_neg (by rw [sq_length]; omega)]
  | succ d ih =>
    intro i h2 h3
    refine Ev.step (f := fun k => laws_heldIntS.l0 k (sq K n) (K + ((i + 1 : Nat) : Int)) ((i + 1 : Nat) : Int)) (fun k => ?_) (ih (i + 1) (by omega) (by omega))
    simp only [laws_heldIntS.l0]
    rw [if_pos (by rw [sq_length]; omega), if_pos (by omega), if_pos (sq_at K (by omega)), wrap_in (x := K + (i : Int) + 1) (by omega) (by omega), wrap_in (x := (i : Int) + 1) (by omega) (by omega), show (K + (i : Int) + 1) = K + ((i + 1 : Nat) : Int) by omega]
    rfl
theorem held (K : Int) (h0 : 0 ≤ K) (h1 : K ≤ 1000000000000) (n : Nat) (hn : n ≤ 4000000) : Ev (fun k => laws_heldIntS.f k (sq K n) K) (K + (n : Int)) := by
  have := held_go K h0 h1 n hn n 0 (Nat.zero_le _) (by omega)
  rw [show K + ((0 : Nat) : Int) = K by omega] at this
  exact Ev.congr (fun k => rfl) this
def tot : List (List Int) → Nat
  | [] => 0
  | r :: rs => r.length + tot rs
def marks (K : Int) : List (List Int) → List (List Int)
  | [] => []
  | r :: rs => sq K r.length :: marks (K + (r.length : Int)) rs
theorem marks_length : ∀ (R : List (List Int)) (K : Int), (marks K R).length = R.length
  | [], _ => rfl
  | r :: rs, K => by rw [marks, List.length_cons, List.length_cons, marks_length]
theorem getD_mid (D : List (List Int)) (r : List Int) (rs : List (List Int)) : (D ++ r :: rs).getD D.length [] = r := by
  rw [List.getD_eq_getElem?_getD, List.getElem?_append_right (Nat.le_refl _), Nat.sub_self]
  rfl
theorem small_tail {r : List Int} {rs : List (List Int)} (h : ∀ x ∈ r :: rs, x.length ≤ 4000000) : ∀ x ∈ rs, x.length ≤ 4000000 := fun x hx => h x (by simp [hx])
theorem mark_rows : ∀ (R D : List (List Int)) (K : Int), 0 ≤ K → K + tot R ≤ 1000000000000 → (∀ x ∈ R, x.length ≤ 4000000) → D.length + R.length ≤ 4000000 → Ev (fun k => laws_markIntSS.l0 k (D ++ R) K (D.length : Int)) (K + (tot R : Int), D ++ marks K R)
  | [], D, K, h0, h1, hr, hl => by
    rw [List.append_nil, marks, List.append_nil]
    refine Ev.step (f := fun _ => some (K + (tot [] : Int), D)) (fun k => ?_) (Ev.now _)
    simp only [laws_markIntSS.l0]
    rw [if_neg (by omega), show K + ((tot [] : Nat) : Int) = K by simp [tot]]
  | r :: rs, D, K, h0, h1, hr, hl => by
    have hrl := hr r (by simp)
    rw [tot] at h1
    rw [List.length_cons] at hl
    have ih := mark_rows rs (D ++ [sq K r.length]) (K + (r.length : Int)) (by omega) (by omega) (small_tail hr) (by rw [List.length_append, List.length_singleton]; omega)
    have e1 : K + (r.length : Int) + (tot rs : Int) = K + (tot (r :: rs) : Int) := by rw [tot]; omega
    rw [e1, List.append_assoc, List.append_assoc, List.singleton_append, List.singleton_append, List.length_append, List.length_singleton] at ih
    refine Ev.step (f := fun k => (laws_markIntS.f k r K).bind fun t => laws_markIntSS.l0 k (D ++ t.2 :: rs) t.1 ((D.length + 1 : Nat) : Int)) (fun k => ?_) (Ev.bind (marked K h0 (by omega) r hrl) (by rw [marks]; exact ih))
    simp only [laws_markIntSS.l0]
    rw [if_pos (by rw [List.length_append, List.length_cons]; omega), if_pos (by omega), Int.toNat_natCast, getD_mid, wrap_in (x := (D.length : Int) + 1) (by omega) (by omega)]
    congr 1
    funext t
    rw [List.set_append_right _ _ (Nat.le_refl _), Nat.sub_self, List.set_cons_zero]
    rfl
theorem markSS (R : List (List Int)) (h1 : tot R ≤ 1000000000) (hr : ∀ x ∈ R, x.length ≤ 4000000) (hl : R.length ≤ 4000000) : Ev (fun k => laws_markIntSS.f k R 1) (1 + (tot R : Int), marks 1 R) := by
  have := mark_rows R [] 1 (by omega) (by omega) hr (by simpa using hl)
  exact Ev.congr (fun k => rfl) this
theorem held_rows : ∀ (R D : List (List Int)) (K : Int), 0 ≤ K → K + tot R ≤ 1000000000000 → (∀ x ∈ R, x.length ≤ 4000000) → D.length + R.length ≤ 4000000 → Ev (fun k => laws_heldIntSS.l0 k (D ++ marks K R) K (D.length : Int)) (K + (tot R : Int))
  | [], D, K, h0, h1, hr, hl => by
    rw [marks, List.append_nil]
    refine Ev.step (f := fun _ => some (K + (tot [] : Int))) (fun k => ?_) (Ev.now _)
    simp only [laws_heldIntSS.l0]
    rw [if_neg (by omega), show K + ((tot [] : Nat) : Int) = K by simp [tot]]
  | r :: rs, D, K, h0, h1, hr, hl => by
    have hrl := hr r (by simp)
    rw [tot] at h1
    rw [List.length_cons] at hl
    have ih := held_rows rs (D ++ [sq K r.length]) (K + (r.length : Int)) (by omega) (by omega) (small_tail hr) (by rw [List.length_append, List.length_singleton]; omega)
    have e1 : K + (r.length : Int) + (tot rs : Int) = K + (tot (r :: rs) : Int) := by rw [tot]; omega
    rw [e1, List.append_assoc, List.singleton_append, List.length_append, List.length_singleton] at ih
    rw [marks]
    refine Ev.step (f := fun k => (laws_heldIntS.f k (sq K r.length) K).bind fun t => if t < 0 then some (-1) else laws_heldIntSS.l0 k (D ++ sq K r.length :: marks (K + (r.length : Int)) rs) t ((D.length + 1 : Nat) : Int)) (fun k => ?_) (Ev.bind (held K h0 (by omega) r.length hrl) (neg (show ¬ K + (r.length : Int) < 0 by omega) ih))
    simp only [laws_heldIntSS.l0]
    rw [if_pos (by rw [List.length_append, List.length_cons]; omega), if_pos (by omega), wrap_in (x := (D.length : Int) + 1) (by omega) (by omega)]
    have e : rd_L2 (D ++ sq K r.length :: marks (K + (r.length : Int)) rs) (D.length : Int) = sq K r.length := by
      unfold rd_L2
      rw [Int.toNat_natCast, getD_mid]
    rw [e]
    rfl
theorem heldSS (R : List (List Int)) (h1 : tot R ≤ 1000000000) (hr : ∀ x ∈ R, x.length ≤ 4000000) (hl : R.length ≤ 4000000) : Ev (fun k => laws_heldIntSS.f k (marks 1 R) 1) (1 + (tot R : Int)) := by
  have := held_rows R [] 1 (by omega) (by omega) hr (by simpa using hl)
  exact Ev.congr (fun k => rfl) this
theorem eq_rows : ∀ (R D : List (List Int)), (∀ x ∈ R, x.length ≤ 4000000) → D.length + R.length ≤ 4000000 → Ev (fun k => laws_eqIntSS.l0 k (D ++ R) (D ++ R) (D.length : Int)) true
  | [], D, hr, hl => by
    rw [List.append_nil]
    refine Ev.step (f := fun _ => some true) (fun k => ?_) (Ev.now _)
    simp only [laws_eqIntSS.l0]
    rw [if_neg (by omega)]
  | r :: rs, D, hr, hl => by
    have hrl := hr r (by simp)
    rw [List.length_cons] at hl
    have ih := eq_rows rs (D ++ [r]) (small_tail hr) (by rw [List.length_append, List.length_singleton]; omega)
    rw [List.append_assoc, List.singleton_append, List.length_append, List.length_singleton] at ih
    refine Ev.step (f := fun k => (laws_eqIntS.f k r r).bind fun t => if t = true then laws_eqIntSS.l0 k (D ++ r :: rs) (D ++ r :: rs) ((D.length + 1 : Nat) : Int) else some false) (fun k => ?_) (Ev.bind (PInt.eqS r (by omega)) (pos rfl ih))
    simp only [laws_eqIntSS.l0]
    have e : rd_L2 (D ++ r :: rs) (D.length : Int) = r := by
      unfold rd_L2
      rw [Int.toNat_natCast, getD_mid]
    rw [if_pos (by rw [List.length_append, List.length_cons]; omega), if_pos (by omega), if_pos (by rw [List.length_append, List.length_cons]; omega), wrap_in (x := (D.length : Int) + 1) (by omega) (by omega), e]
    rfl
theorem eqSS (R : List (List Int)) (hr : ∀ x ∈ R, x.length ≤ 4000000) (hl : R.length ≤ 4000000) : Ev (fun k => laws_eqIntSS.f k R R) true := by
  have := eq_rows R [] hr (by simpa using hl)
  refine Ev.congr (fun k => ?_) this
  unfold laws_eqIntSS.f
  rw [if_pos rfl]
  rfl
theorem tot_le (R : List (List Int)) (m : Nat) (hr : ∀ x ∈ R, x.length ≤ m) : tot R ≤ R.length * m := by
  induction R with
  | nil => simp [tot]
  | cons r rs ih =>
    rw [tot, List.length_cons, Nat.succ_mul]
    have := ih (fun x hx => hr x (by simp [hx]))
    have := hr r (by simp)
    omega
end Go.Proofs.YtnmibkkchgagbaaDoor.PRows
