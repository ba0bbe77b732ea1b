/- Plain facts on the kept game's lists and heaps, of the printed functions: the bars that can be kept, in the program and in the reference. Conditions: sides of at most a million. -/
import Derived.Test.YtoplnaobaedciaaAx4
namespace Go.Proofs.Ytoplnaobaedciaa.PKept
open Go.RowKit Go.Proofs.Ytoplnaobaedciaa.All Go.Proofs.YtoplnaobaedciaaW.PrintWords Go.Proofs.YtoplnaobaedciaaW.PrintLast

theorem wrap_id {x : Int} (h0 : -9223372036854775808 ≤ x) (h1 : x ≤ 9223372036854775807) : wrap64 x = x := by unfold wrap64; omega

/-- g i, g (i + 1), .., g (n - 1). -/
def seg (g : Int → S31) (i n : Int) : List S31 := (List.range (n - i).toNat).map (fun (j : Nat) => g (i + (j : Int)))
theorem seg_nil (g : Int → S31) {i n : Int} (h : ¬ i < n) : seg g i n = [] := by
  unfold seg
  rw [show (n - i).toNat = 0 by omega]
  rfl
theorem seg_cons (g : Int → S31) {i n : Int} (h : i < n) : seg g i n = g i :: seg g (i + 1) n := by
  unfold seg
  rw [show (n - i).toNat = (n - (i + 1)).toNat + 1 by omega, List.range_succ_eq_map, List.map_cons, List.map_map]
  congr 1
  · simp
  · apply List.map_congr_left
    intro j _
    simp only [Function.comp]
    congr 1
    omega
theorem seg_length (g : Int → S31) (i n : Int) : (seg g i n).length = (n - i).toNat := by simp [seg]

/-- All bars that can be kept. -/
def keptL (a b : Int) : List S31 := seg (fun j => ⟨j, b⟩) 1 a ++ seg (fun j => ⟨a, j⟩) 1 b
theorem keptL_length (a b : Int) (ha : a ≤ 1000) (hb : b ≤ 1000) : (keptL a b).length ≤ 2000 := by
  simp only [keptL, List.length_append, seg_length]
  omega

section
variable (a b : Int) (ha : a ≤ 1000) (hb : b ≤ 1000)
include ha hb
omit ha in
theorem spec_l1 : ∀ (d : Nat) (i : Int) (x : List S31), (b - i).toNat = d → 1 ≤ i → x.length + d ≤ 1000000 → Ev (fun k => spec_laKept.l1 k x i a b) (x ++ seg (fun j => ⟨a, j⟩) i b) := by
  intro d
  induction d with
  | zero =>
    intro i x hd h1 hx
    rw [seg_nil _ (by omega), List.append_nil]
    exact Ev.step (f := fun _ => some x) (fun k => by simp only [spec_laKept.l1]; rw [if_neg (by omega)]) (Ev.now _)
  | succ d ih =>
    intro i x hd h1 hx
    rw [seg_cons _ (show i < b by omega)]
    have := ih (i + 1) (x ++ [⟨a, i⟩]) (by omega) (by omega) (by simp; omega)
    rw [List.append_assoc, List.singleton_append] at this
    refine Ev.step (f := fun k => spec_laKept.l1 k (x ++ [⟨a, i⟩]) (i + 1) a b) (fun k => ?_) this
    simp only [spec_laKept.l1]
    rw [if_pos (by omega), if_pos (by omega), wrap_id (by omega) (by omega)]
theorem spec_l0 : ∀ (d : Nat) (i : Int) (x : List S31), (a - i).toNat = d → 1 ≤ i → x.length + d ≤ 2000 → Ev (fun k => spec_laKept.l0 k x i a b) (x ++ seg (fun j => ⟨j, b⟩) i a ++ seg (fun j => ⟨a, j⟩) 1 b) := by
  intro d
  induction d with
  | zero =>
    intro i x hd h1 hx
    rw [seg_nil _ (by omega), List.append_nil]
    exact Ev.step (f := fun k => spec_laKept.l1 k x 1 a b) (fun k => by simp only [spec_laKept.l0]; rw [if_neg (by omega)]) (spec_l1 a b hb _ 1 x rfl (by omega) (by omega))
  | succ d ih =>
    intro i x hd h1 hx
    rw [seg_cons _ (show i < a by omega)]
    have := ih (i + 1) (x ++ [⟨i, b⟩]) (by omega) (by omega) (by simp; omega)
    rw [List.append_assoc x, List.singleton_append] at this
    refine Ev.step (f := fun k => spec_laKept.l0 k (x ++ [⟨i, b⟩]) (i + 1) a b) (fun k => ?_) this
    simp only [spec_laKept.l0]
    rw [if_pos (by omega), if_pos (by omega), wrap_id (by omega) (by omega)]
theorem spec_kept : Ev (fun k => spec_laKept.f k a b) (keptL a b) := Ev.congr (fun k => rfl) (spec_l0 a b ha hb (a - 1).toNat 1 [] rfl (by omega) (by simp; omega))
omit ha in
theorem impl_l1 : ∀ (d : Nat) (i : Int) (x : List S31), (b - i).toNat = d → 1 ≤ i → x.length + d ≤ 1000000 → Ev (fun k => impl_keptMoves.l1 k x i a b) (x ++ seg (fun j => ⟨a, j⟩) i b) := by
  intro d
  induction d with
  | zero =>
    intro i x hd h1 hx
    rw [seg_nil _ (by omega), List.append_nil]
    exact Ev.step (f := fun _ => some x) (fun k => by simp only [impl_keptMoves.l1]; rw [if_neg (by omega)]) (Ev.now _)
  | succ d ih =>
    intro i x hd h1 hx
    rw [seg_cons _ (show i < b by omega)]
    have := ih (i + 1) (x ++ [⟨a, i⟩]) (by omega) (by omega) (by simp; omega)
    rw [List.append_assoc, List.singleton_append] at this
    refine Ev.step (f := fun k => impl_keptMoves.l1 k (x ++ [⟨a, i⟩]) (i + 1) a b) (fun k => ?_) this
    simp only [impl_keptMoves.l1]
    rw [if_pos (by omega), if_pos (by omega), wrap_id (by omega) (by omega)]
theorem impl_l0 : ∀ (d : Nat) (i : Int) (x : List S31), (a - i).toNat = d → 1 ≤ i → x.length + d ≤ 2000 → Ev (fun k => impl_keptMoves.l0 k x i a b) (x ++ seg (fun j => ⟨j, b⟩) i a ++ seg (fun j => ⟨a, j⟩) 1 b) := by
  intro d
  induction d with
  | zero =>
    intro i x hd h1 hx
    rw [seg_nil _ (by omega), List.append_nil]
    exact Ev.step (f := fun k => impl_keptMoves.l1 k x 1 a b) (fun k => by simp only [impl_keptMoves.l0]; rw [if_neg (by omega)]) (impl_l1 a b hb _ 1 x rfl (by omega) (by omega))
  | succ d ih =>
    intro i x hd h1 hx
    rw [seg_cons _ (show i < a by omega)]
    have := ih (i + 1) (x ++ [⟨i, b⟩]) (by omega) (by omega) (by simp; omega)
    rw [List.append_assoc x, List.singleton_append] at this
    refine Ev.step (f := fun k => impl_keptMoves.l0 k (x ++ [⟨i, b⟩]) (i + 1) a b) (fun k => ?_) this
    simp only [impl_keptMoves.l0]
    rw [if_pos (by omega), if_pos (by omega), wrap_id (by omega) (by omega)]
theorem impl_kept : Ev (fun k => impl_keptMoves.f k a b) (keptL a b) := Ev.congr (fun k => rfl) (impl_l0 a b ha hb (a - 1).toNat 1 [] rfl (by omega) (by simp; omega))
end

/-! ### bars -/
def ok2 (a b : Int) : Bool := decide (1 ≤ a ∧ a ≤ 12 ∧ 1 ≤ b ∧ b ≤ 12)
theorem good_eq (a b : Int) : spec_brGood.f a b = some (ok2 a b) := by
  unfold spec_brGood.f spec_l1In.f ok2
  by_cases h1 : 1 ≤ a <;> by_cases h2 : a ≤ 12 <;> by_cases h3 : 1 ≤ b <;> by_cases h4 : b ≤ 12 <;> simp [h1, h2, h3, h4]
theorem isBar_eq2 (a b : Int) : impl_isBar.f a b = some (ok2 a b) := by
  unfold impl_isBar.f impl_within.f ok2
  by_cases h1 : 1 ≤ a <;> by_cases h2 : a ≤ 12 <;> by_cases h3 : 1 ≤ b <;> by_cases h4 : b ≤ 12 <;> simp [h1, h2, h3, h4]
/-- KeptMoves, of both. -/
def moves (a b : Int) : List S31 × Bool := if ok2 a b then (keptL a b, true) else ([], false)
theorem ok2_le {a b : Int} (h : ok2 a b = true) : 1 ≤ a ∧ a ≤ 12 ∧ 1 ≤ b ∧ b ≤ 12 := by simpa [ok2] using h
theorem spec_moves (a b : Int) : Ev (fun k => spec_KeptMoves.f k a b) (moves a b) := by
  unfold moves spec_KeptMoves.f
  simp only [good_eq, Option.bind_some]
  cases h : ok2 a b
  · exact Ev.now _
  · have := ok2_le h
    exact Ev.bind (spec_kept a b (by omega) (by omega)) (Ev.now _)
theorem impl_moves (a b : Int) : Ev (fun k => impl_KeptMoves.f k a b) (moves a b) := by
  unfold moves impl_KeptMoves.f
  simp only [isBar_eq2, Option.bind_some]
  cases h : ok2 a b
  · exact Ev.now _
  · have := ok2_le h
    exact Ev.bind (impl_kept a b (by omega) (by omega)) (Ev.now _)
theorem moves_length (a b : Int) : (moves a b).1.length ≤ 2000 := by
  unfold moves
  cases h : ok2 a b
  · simp
  · have := ok2_le h
    exact keptL_length a b (by omega) (by omega)
end Go.Proofs.Ytoplnaobaedciaa.PKept
