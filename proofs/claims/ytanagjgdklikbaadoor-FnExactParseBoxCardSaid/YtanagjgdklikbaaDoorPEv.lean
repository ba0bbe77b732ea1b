/- Small laws on printed functions that answer with enough rounds: both arms of a test; numbers that do not wrap; stretches of a list. Conditions: as each law states them. -/
import Derived.Test.YtanagjgdklikbaaDoorWWords
namespace Go.Proofs.YtanagjgdklikbaaDoor.PEv
open Go.RowKit Go.Proofs.YtanagjgdklikbaaDoorW.PrintWords

theorem wrap_in {x : Int} (h0 : -9223372036854775808 ≤ x) (h1 : x ≤ 9223372036854775807) : wrap64 x = x := by unfold wrap64; omega
section
variable {α β : Type} {c : Prop} [Decidable c] {f g : Nat → Option α} {r : α}
theorem pos (hc : c) (h : Ev f r) : Ev (fun k => if c then f k else g k) r := Ev.congr (fun _ => if_pos hc) h
theorem neg (hc : ¬ c) (h : Ev g r) : Ev (fun k => if c then f k else g k) r := Ev.congr (fun _ => if_neg hc) h
theorem bound {f : Nat → β → Option α} {b : β} (h : Ev (fun k => f k b) r) : Ev (fun k => (some b : Option β).bind (f k)) r := Ev.congr (fun _ => Option.bind_some _ _) h
/-- With a result known for enough rounds, a step that is the same from the next round on. -/
theorem both {f : Nat → Option α} {r q : α} (h : Ev f r) (h2 : Ev f q) : r = q := by
  obtain ⟨k1, h1⟩ := h
  obtain ⟨k2, h3⟩ := h2
  exact Option.some.inj ((h1 (max k1 k2) (Nat.le_max_left _ _)).symm.trans (h3 (max k1 k2) (Nat.le_max_right _ _)))
end
section
variable {α : Type}
/-- g i, g (i + 1), .., g (n - 1). -/
def seg (g : Int → α) (i n : Int) : List α := (List.range (n - i).toNat).map (fun (j : Nat) => g (i + (j : Int)))
theorem seg_nil (g : Int → α) {i n : Int} (h : ¬ i < n) : seg g i n = [] := by
  unfold seg
  rw [show (n - i).toNat = 0 by omega]
  rfl
theorem seg_cons (g : Int → α) {i n : Int} (h : i < n) : seg g i n = g i :: seg g (i + 1) n := by
  unfold seg
  rw [show (n - i).toNat = (n - (i + 1)).toNat + 1 by omega, List.range_succ_eq_map, List.map_cons, List.map_map]
  congr 1
  · simp
  · apply List.map_congr_left
    intro j _
    simp only [Function.comp]
    congr 1
    omega
theorem seg_length (g : Int → α) (i n : Int) : (seg g i n).length = (n - i).toNat := by simp [seg]
theorem seg_mem {g : Int → α} {i n : Int} {x : α} (h : x ∈ seg g i n) : ∃ j : Int, i ≤ j ∧ j < n ∧ x = g j := by
  simp only [seg, List.mem_map, List.mem_range] at h
  obtain ⟨j, hj, rfl⟩ := h
  exact ⟨i + j, by omega, by omega, rfl⟩
theorem seg_snoc (g : Int → α) {i n : Int} (h : i ≤ n) : seg g i (n + 1) = seg g i n ++ [g n] := by
  unfold seg
  rw [show (n + 1 - i).toNat = (n - i).toNat + 1 by omega, List.range_succ, List.map_append]
  congr 1
  simp only [List.map_cons, List.map_nil]
  congr 2
  omega
end
end Go.Proofs.YtanagjgdklikbaaDoor.PEv
