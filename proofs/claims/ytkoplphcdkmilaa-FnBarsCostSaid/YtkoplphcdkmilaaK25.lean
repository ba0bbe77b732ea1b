/- Texts of this claim joined, in the order in which they build: POrd, PSOrd, PRows, GOrd2, GLib, GWithin, Ax14. -/
import Derived.Lib.OwnBridge
import Derived.Lib.SliceRun
import Derived.Test.YtkoplphcdkmilaaK24
section
namespace Go.Proofs.Ytkoplphcdkmilaa.All
open Go.Sort
set_option linter.unusedVariables false

theorem sorted_unique {cst : Nat → Int} : ∀ {l1 l2 : List Nat}, l1.Perm l2 → l1.Pairwise (mlt cst) → l2.Pairwise (mlt cst) → l1 = l2
  | [], l2, h, _, _ => (List.nil_perm.mp h).symm
  | x :: l1, [], h, _, _ => absurd h (by simp)
  | x :: l1, y :: l2, h, h1, h2 => by
    rw [List.pairwise_cons] at h1 h2
    have e : x = y := by
      have hx : x ∈ y :: l2 := h.mem_iff.mp (List.mem_cons_self ..)
      have hy : y ∈ x :: l1 := h.mem_iff.mpr (List.mem_cons_self ..)
      rcases List.mem_cons.mp hx with e | e
      · exact e
      · rcases List.mem_cons.mp hy with e' | e'
        · exact e'.symm
        · exact (mlt_asymm (h1.1 y e') (h2.1 x e)).elim
    subst e
    rw [sorted_unique (List.Perm.cons_inv h) h1.2 h2.2]

def ordI (cst : Nat → Int) (n : Nat) : Nat → List Nat
  | 0 => (List.range n).filter fun j => cst j = 0
  | c + 1 => ((List.range n).filter fun j => cst j = ((c + 1 : Nat) : Int)) ++ ordI cst n c

theorem mem_ordI {cst : Nat → Int} {n c j : Nat} (h : j ∈ ordI cst n c) : j < n ∧ 0 ≤ cst j ∧ cst j ≤ c := by
  induction c with
  | zero => simp [ordI] at h; omega
  | succ c ih =>
    simp only [ordI, List.mem_append, List.mem_filter, List.mem_range, decide_eq_true_eq] at h
    rcases h with h | h
    · omega
    · have := ih h; omega

theorem range_inc (n : Nat) : (List.range n).Pairwise (· < ·) := List.pairwise_lt_range

theorem ordI_sorted (cst : Nat → Int) (n c : Nat) : (ordI cst n c).Pairwise (mlt cst) := by
  have same : ∀ z : Int, ((List.range n).filter fun j => cst j = z).Pairwise (mlt cst) := fun z => by
    rw [List.pairwise_filter]
    exact (range_inc n).imp fun {a b} h ha hb => .inr ⟨by simp at ha hb; omega, h⟩
  induction c with
  | zero => exact same 0
  | succ c ih =>
    refine List.pairwise_append.mpr ⟨same _, ih, fun x hx y hy => ?_⟩
    have h := mem_ordI hy
    simp only [List.mem_filter, decide_eq_true_eq] at hx
    exact .inl (by omega)

theorem ordI_mem {cst : Nat → Int} {n c j : Nat} (hj : j < n) (h0 : 0 ≤ cst j) (h1 : cst j ≤ c) : j ∈ ordI cst n c := by
  induction c with
  | zero => simp [ordI]; omega
  | succ c ih =>
    simp only [ordI, List.mem_append, List.mem_filter, List.mem_range, decide_eq_true_eq]
    by_cases e : cst j = ((c + 1 : Nat) : Int)
    · exact .inl ⟨hj, e⟩
    · exact .inr (ih (by omega))

theorem nodup_of_mlt {cst : Nat → Int} {l : List Nat} (h : l.Pairwise (mlt cst)) : l.Nodup := h.imp fun {a b} hab e => by subst e; unfold mlt at hab; omega

theorem ordI_perm {cst : Nat → Int} {n c : Nat} (h : ∀ j, j < n → 0 ≤ cst j ∧ cst j ≤ c) : (ordI cst n c).Perm (List.range n) :=
  (List.perm_ext_iff_of_nodup (nodup_of_mlt (ordI_sorted cst n c)) List.nodup_range).mpr fun j => ⟨fun hj => List.mem_range.mpr (mem_ordI hj).1, fun hj => ordI_mem (List.mem_range.mp hj) (h j (List.mem_range.mp hj)).1 (h j (List.mem_range.mp hj)).2⟩

theorem sortedIn_pairwise {cst : Nat → Int} {d : Array Nat} {n : Nat} (hn : d.size = n) (h : SortedIn cst d 0 n) : d.toList.Pairwise (mlt cst) := by
  rw [List.pairwise_iff_getElem]
  intro i j hi hj hij
  have h1 : i < d.size := by simpa using hi
  have h2 : j < d.size := by simpa using hj
  have := h i j (Nat.zero_le _) hij (by omega)
  rw [getElem!_pos d i h1, getElem!_pos d j h2] at this
  simpa using this

theorem merged_ordI {cst : Nat → Int} {d' : Array Nat} {n c : Nat} (h : ∀ j, j < n → 0 ≤ cst j ∧ cst j ≤ c) (hm : PermIn 0 n (List.range n).toArray d' ∧ SortedIn cst d' 0 n) : d'.toList = ordI cst n c := by
  have hs : d'.size = n := by rw [hm.1.1]; simp
  refine sorted_unique ?_ (sortedIn_pairwise hs hm.2) (ordI_sorted cst n c)
  have hp := hm.1.2.2
  have e1 : d'.extract 0 n = d' := by rw [← hs]; simp
  have e2 : ((List.range n).toArray.extract 0 n) = (List.range n).toArray := by
    have : (List.range n).toArray.size = n := by simp
    conv => lhs; rw [← this]
    simp
  rw [e1, e2] at hp
  exact hp.trans (ordI_perm h).symm
end Go.Proofs.Ytkoplphcdkmilaa.All
end
section
namespace Go.Proofs.Ytkoplphcdkmilaa.All
open Go.RowKit Go.Proofs.YtkoplphcdkmilaaW.PrintWords Go.Proofs.YtkoplphcdkmilaaW.PrintLast Go.Proofs.YtkoplphcdkmilaaW.PrintMore
set_option linter.unusedVariables false

def rowsAt (z : Int) (l : List Int) (c : Int) (i m : Nat) : List (List Int) := ((List.range' i m).filter fun j => decide (l.getD j 0 = c)).map fun (j : Nat) => [z, (j : Int)]

theorem rowsAt_succ (z : Int) (l : List Int) (c : Int) (i m : Nat) : rowsAt z l c i (m + 1) = (if l.getD i 0 = c then [[z, (i : Int)]] else []) ++ rowsAt z l c (i + 1) m := by
  unfold rowsAt
  rw [List.range'_succ, List.filter_cons]
  by_cases h : l.getD i 0 = c
  · rw [if_pos (decide_eq_true h), if_pos h]; rfl
  · rw [if_neg (by simpa using h), if_neg h]; rfl

theorem brOrder_l2 (l0 l1 : List Int) (c : Int) (hl : l1.length < 12) : ∀ (m i k : Nat) (out : List (List Int)), i + m = l1.length → m < k → out.length + m < 100000 →
    spec_brOrder.l2 k l0 l1 out c l1 (l1.length : Int) (i : Int) = spec_brOrder.l0 (k - m - 1) l0 l1 (out ++ rowsAt 1 l1 c i m) (wrap64 (c - 1))
  | 0, i, k, out, h, hk, ho => by
    obtain ⟨k, rfl⟩ : ∃ q, k = q + 1 := ⟨k - 1, by omega⟩
    rw [spec_brOrder.l2, if_neg (by omega), show rowsAt 1 l1 c i 0 = [] from rfl, List.append_nil]; rfl
  | m + 1, i, k, out, h, hk, ho => by
    obtain ⟨k, rfl⟩ : ∃ q, k = q + 1 := ⟨k - 1, by omega⟩
    have hr : rd l1 (i : Int) = l1.getD i 0 := by unfold rd; simp
    have hw : wrap64 ((i : Int) + 1) = ((i + 1 : Nat) : Int) := by unfold wrap64; omega
    rw [spec_brOrder.l2, if_pos (by omega), if_pos (by omega), if_pos (by omega), hr, hw, rowsAt_succ]
    by_cases e : l1.getD i 0 = c
    · rw [if_pos e, if_pos e, if_pos (by omega), brOrder_l2 l0 l1 c hl m (i + 1) k _ (by omega) (by omega) (by simp; omega)]
      rw [List.append_assoc, show k + 1 - (m + 1) - 1 = k - m - 1 by omega]
    · rw [if_neg e, if_neg e, brOrder_l2 l0 l1 c hl m (i + 1) k _ (by omega) (by omega) (by omega), List.nil_append, show k + 1 - (m + 1) - 1 = k - m - 1 by omega]

theorem brOrder_l1 (l0 l1 : List Int) (c : Int) (hl : l0.length < 12) : ∀ (m i k : Nat) (out : List (List Int)), i + m = l0.length → m < k → out.length + m < 100000 →
    spec_brOrder.l1 k l0 l1 out c l0 (l0.length : Int) (i : Int) = spec_brOrder.l2 (k - m - 1) l0 l1 (out ++ rowsAt 0 l0 c i m) c l1 (l1.length : Int) 0
  | 0, i, k, out, h, hk, ho => by
    obtain ⟨k, rfl⟩ : ∃ q, k = q + 1 := ⟨k - 1, by omega⟩
    rw [spec_brOrder.l1, if_neg (by omega), show rowsAt 0 l0 c i 0 = [] from rfl, List.append_nil]; rfl
  | m + 1, i, k, out, h, hk, ho => by
    obtain ⟨k, rfl⟩ : ∃ q, k = q + 1 := ⟨k - 1, by omega⟩
    have hr : rd l0 (i : Int) = l0.getD i 0 := by unfold rd; simp
    have hw : wrap64 ((i : Int) + 1) = ((i + 1 : Nat) : Int) := by unfold wrap64; omega
    rw [spec_brOrder.l1, if_pos (by omega), if_pos (by omega), if_pos (by omega), hr, hw, rowsAt_succ]
    by_cases e : l0.getD i 0 = c
    · rw [if_pos e, if_pos e, if_pos (by omega), brOrder_l1 l0 l1 c hl m (i + 1) k _ (by omega) (by omega) (by simp; omega)]
      rw [List.append_assoc, show k + 1 - (m + 1) - 1 = k - m - 1 by omega]
    · rw [if_neg e, if_neg e, brOrder_l1 l0 l1 c hl m (i + 1) k _ (by omega) (by omega) (by omega), List.nil_append, show k + 1 - (m + 1) - 1 = k - m - 1 by omega]

theorem rowsAt_len (z : Int) (l : List Int) (c : Int) (i m : Nat) : (rowsAt z l c i m).length ≤ m := by
  unfold rowsAt; rw [List.length_map]; exact Nat.le_trans (List.length_filter_le ..) (by simp)

def ordR (l0 l1 : List Int) : Nat → List (List Int)
  | 0 => rowsAt 0 l0 0 0 l0.length ++ rowsAt 1 l1 0 0 l1.length
  | c + 1 => rowsAt 0 l0 ((c + 1 : Nat) : Int) 0 l0.length ++ rowsAt 1 l1 ((c + 1 : Nat) : Int) 0 l1.length ++ ordR l0 l1 c

theorem brOrder_step (l0 l1 : List Int) (h0 : l0.length < 12) (h1 : l1.length < 12) (c k : Nat) (out : List (List Int)) (hk : 30 ≤ k) (ho : out.length < 90000) (hc : c ≤ 100) :
    spec_brOrder.l0 k l0 l1 out (c : Int) = spec_brOrder.l0 (k - l0.length - l1.length - 3) l0 l1 (out ++ (rowsAt 0 l0 c 0 l0.length ++ rowsAt 1 l1 c 0 l1.length)) (wrap64 ((c : Int) - 1)) := by
  obtain ⟨k, rfl⟩ : ∃ q, k = q + 1 := ⟨k - 1, by omega⟩
  have e1 := brOrder_l1 l0 l1 c h0 l0.length 0 k out (by omega) (by omega) (by omega)
  have hl := rowsAt_len 0 l0 c 0 l0.length
  have e2 := brOrder_l2 l0 l1 c h1 l1.length 0 (k - l0.length - 1) (out ++ rowsAt 0 l0 c 0 l0.length) (by omega) (by omega) (by rw [List.length_append]; omega)
  rw [spec_brOrder.l0, if_pos (by omega)]
  rw [show ((0 : Nat) : Int) = 0 from rfl] at e1 e2
  rw [e1, e2, List.append_assoc, show k + 1 - l0.length - l1.length - 3 = k - l0.length - 1 - l1.length - 1 by omega]

theorem brOrder_all (l0 l1 : List Int) (h0 : l0.length < 12) (h1 : l1.length < 12) : ∀ (c k : Nat) (out : List (List Int)), c ≤ 100 → 30 * (c + 1) ≤ k → out.length + 30 * (c + 1) < 90000 →
    spec_brOrder.l0 k l0 l1 out (c : Int) = some (out ++ ordR l0 l1 c)
  | 0, k, out, hc, hk, ho => by
    rw [brOrder_step l0 l1 h0 h1 0 k out (by omega) (by omega) hc]
    obtain ⟨q, hq⟩ : ∃ q, k - l0.length - l1.length - 3 = q + 1 := ⟨k - l0.length - l1.length - 4, by omega⟩
    rw [hq, spec_brOrder.l0, if_neg (by unfold wrap64; omega)]
    rfl
  | c + 1, k, out, hc, hk, ho => by
    have hl := rowsAt_len 0 l0 ((c + 1 : Nat) : Int) 0 l0.length
    have hm := rowsAt_len 1 l1 ((c + 1 : Nat) : Int) 0 l1.length
    rw [brOrder_step l0 l1 h0 h1 (c + 1) k out (by omega) (by omega) hc, show wrap64 (((c + 1 : Nat) : Int) - 1) = (c : Int) by unfold wrap64; omega,
      brOrder_all l0 l1 h0 h1 c _ _ (by omega) (by omega) (by simp only [List.length_append]; omega), List.append_assoc]
    rfl
end Go.Proofs.Ytkoplphcdkmilaa.All
end
section
namespace Go.Proofs.Ytkoplphcdkmilaa.All
set_option linter.unusedVariables false

def cstOf (l0 l1 : List Int) (j : Nat) : Int := (l0 ++ l1).getD j 0
def rowOf (p j : Nat) : List Int := if j < p then [0, (j : Int)] else [1, ((j - p : Nat) : Int)]

theorem rows_block (l0 l1 : List Int) (c : Int) : (((List.range (l0.length + l1.length)).filter fun j => decide (cstOf l0 l1 j = c)).map (rowOf l0.length)) = rowsAt 0 l0 c 0 l0.length ++ rowsAt 1 l1 c 0 l1.length := by
  rw [List.range_add, List.filter_append, List.map_append]
  congr 1
  · unfold rowsAt
    rw [← List.range_eq_range']
    have : (List.range l0.length).filter (fun j => decide (cstOf l0 l1 j = c)) = (List.range l0.length).filter (fun j => decide (l0.getD j 0 = c)) := by
      apply List.filter_congr
      intro j hj
      have hj := List.mem_range.mp hj
      unfold cstOf
      simp [List.getElem?_append, hj]
    rw [this]
    apply List.map_congr_left
    intro j hj
    have hj := List.mem_range.mp (List.mem_filter.mp hj).1
    unfold rowOf
    rw [if_pos hj]
  · unfold rowsAt
    rw [← List.range_eq_range', List.filter_map, List.map_map]
    have : (List.range l1.length).filter ((fun j => decide (cstOf l0 l1 j = c)) ∘ fun x => l0.length + x) = (List.range l1.length).filter (fun j => decide (l1.getD j 0 = c)) := by
      apply List.filter_congr
      intro j hj
      have hn : ¬ l0.length + j < l0.length := by omega
      simp [cstOf, List.getElem?_append, hn]
    rw [this]
    apply List.map_congr_left
    intro j hj
    simp [rowOf]

theorem ordR_eq (l0 l1 : List Int) (c : Nat) : ordR l0 l1 c = (ordI (cstOf l0 l1) (l0.length + l1.length) c).map (rowOf l0.length) := by
  induction c with
  | zero => exact (rows_block l0 l1 0).symm
  | succ c ih => rw [ordR, ordI, List.map_append, ← ih, rows_block]
end Go.Proofs.Ytkoplphcdkmilaa.All
end
section
namespace Go.Proofs.Ytkoplphcdkmilaa.All
open Go.Shelf Go.Lib Go.Sort Go.RowKit Go.Proofs.YtkoplphcdkmilaaW.PrintWords Go.Proofs.YtkoplphcdkmilaaW.PrintLast Go.Proofs.YtkoplphcdkmilaaW.PrintMore GSteps
set_option linter.unusedVariables false
set_option linter.unusedSimpArgs false

theorem sw_block (enc : Nat → Value) (w : World) (blk off m : Nat) (dk : Array Nat) (os : Array Obj) (k : Nat) (hk : k ≠ blk) (hl : k < w.heap.size) : (sortWorld enc w blk off m dk os).heap[k]? = w.heap[k]? := by
  unfold sortWorld
  rw [heap_grow_old _ _ (by rw [size_putRow]; exact hl)]
  simp [putRow, mapBlock, Sort.ahead, Array.getElem?_modify, hk.symm]

theorem bgrow {B : Nat} {w : World} (hB : B ≤ w.heap.size) (os : Array Obj) : Below B w (grow w os) := ⟨rfl, rfl, rfl, by rw [size_grow]; omega, fun k hk => heap_grow_old w os (by omega)⟩

theorem sw_below {enc : Nat → Value} {B : Nat} {w0 w : World} {blk : Nat} (h : Below B w0 w) (hg : B ≤ blk) (hb : blk < w.heap.size) (m : Nat) (dk : Array Nat) (os : Array Obj) : Below B w0 (sortWorld enc w blk 0 m dk os) := by
  unfold sortWorld
  exact (below_putRow h hg).trans (bgrow (by rw [size_putRow]; show B ≤ w.heap.size; omega) os)

theorem rows_told {w : World} {base : Nat} {ok : Nat → Prop} {v : Value} {rows : List (List Int)} (h : Kd.R (Kd.slice 3 (Kd.int .i64)) 41 w base ok v rows) (hne : 0 < rows.length) :
    ∃ (blk cap : Nat) (vals : List Value), v = .slice (some ⟨blk, 0, none⟩) rows.length cap ∧ ok blk ∧ base ≤ blk ∧ w.ownsRow base 41 1 (.slice (some ⟨blk, 0, none⟩) rows.length cap) rows.length vals ∧ vals.length = rows.length ∧ ∀ j, j < rows.length → Kd.R (Kd.int .i64) 3 w base (fun k => ok k ∧ k ≠ blk) (vals.getD j (.slice none 0 0)) (rows.getD j []) := by
  obtain ⟨h0, inner, ho, hr⟩ := h
  have hi : inner.length = rows.length := by have := hr.1; simpa [Kd.slice] using this
  rcases ho.2 with ⟨rfl, hn⟩ | ⟨g, cap, cur, rfl, hg, hh, hc1, hc2, hc3, hc4⟩
  · omega
  · refine ⟨g, cap, inner, rfl, h0 g rfl, hg, ho, hi, fun j hj => ?_⟩
    obtain ⟨v, hv, hR⟩ := hr.2 j (rows.getD j []) (by simp [hj])
    have e : inner.getD j (.slice none 0 0) = v := by
      have hjl : j < inner.length := by omega
      have : ((inner.drop (j * 1)).take 1) = [v] := hv
      have h1 := congrArg (fun l => l[0]?) this
      simp at h1
      simp [List.getD, h1]
    rw [e]
    exact Kd.R_mono hR (fun k hk => ⟨hk.1, fun e => hk.2 (by rw [e]; rfl)⟩)

theorem row_told {w : World} {base : Nat} {ok : Nat → Prop} {v : Value} {x y : Int} (h : Kd.R (Kd.int .i64) 3 w base ok v [x, y]) :
    ∃ (b c : Nat), v = .slice (some ⟨b, 0, none⟩) 2 c ∧ ok b ∧ b < w.heap.size ∧ w.cell? ⟨b, 0, none⟩ = some (.int .i64 x) ∧ w.cell? ⟨b, 1, none⟩ = some (.int .i64 y) := by
  obtain ⟨h0, inner, ho, hr⟩ := h
  rcases ho.2 with ⟨rfl, hn⟩ | ⟨g, cap, cur, rfl, hg, hh, hc1, hc2, hc3, hc4⟩
  · simp at hn
  · have hC := (Kd.R_reads' (A := some ⟨g, 0, none⟩) (n := 2) (c := cap) (d := Kd.int .i64) (e := 3) (w := w) (base := base) (ok := ok) (xs := [x, y]) ⟨h0, inner, ho, hr⟩).2.2
    obtain ⟨a, e, c0⟩ := Kd.at_int hC 0 (by simp) (by simp)
    obtain ⟨a', e', c1⟩ := Kd.at_int hC 1 (by simp) (by simp)
    cases e; cases e'
    have c0' : w.cell? ⟨g, 0, none⟩ = some (.int .i64 x) := c0
    have c1' : w.cell? ⟨g, 1, none⟩ = some (.int .i64 y) := c1
    exact ⟨g, cap, rfl, h0 g rfl, World.block_lt_of_cell? w _ c0', c0', c1'⟩

def clampJ (n j : Nat) : Nat := if j < n then j else 0
def encV (vals : List Value) (n j : Nat) : Value := vals.getD (clampJ n j) (.slice none 0 0)
def cstC (l0 l1 : List Int) (n j : Nat) : Int := cstOf l0 l1 (clampJ n j)

theorem gcell {W : World} {n : Nat} {os : Array Obj} {a : Addr} {v : Value} (h : W.cell? a = some v) : (grow (W.drewN n) os).cell? a = some v := by
  rw [cell?_grow _ _ _ (by exact World.block_lt_of_cell? W _ h)]; exact h

theorem line_cost {W : World} {base : Nat} {ok : Nat → Prop} {v : Value} {A0 A1 : Option Addr} {c0 c1 p2 p3 j : Nat} {l0 l1 : List Int} (hR : Kd.R (Kd.int .i64) 3 W base ok v (rowOf l0.length j)) (hj : j < l0.length + l1.length)
    (x0 : W.cell? ⟨p2, 0, none⟩ = some (.slice A0 l0.length c0)) (x1 : W.cell? ⟨p3, 0, none⟩ = some (.slice A1 l1.length c1)) (r0 : Kd.C (Kd.int .i64) W A0 l0.length l0) (r1 : Kd.C (Kd.int .i64) W A1 l1.length l1) (hl0 : l0.length < 12) (hl1 : l1.length < 12) (n : Nat) (os : Array Obj) :
    Calls Try.prog 48 #[v, .pointer (some ⟨p2, 0, none⟩), .pointer (some ⟨p3, 0, none⟩)] (grow (W.drewN n) os) fun e w' => e = .returned (.int .i64 (cstOf l0 l1 j)) ∧ ∃ q os', w' = grow ((grow (W.drewN n) os).drewN q) os' := by
  unfold rowOf at hR
  by_cases h : j < l0.length
  · rw [if_pos h] at hR
    obtain ⟨b, c, rfl, _, _, e0, e1⟩ := row_told hR
    obtain ⟨a, ha, hx⟩ := Kd.at_int r0 j (by omega) (by omega)
    subst ha
    have hv : cstOf l0 l1 j = rd l0 j := by unfold cstOf rd; simp [List.getElem?_append, h]
    rw [hv]
    exact cost_any0 _ a A1 l0.length l1.length c0 c1 p2 p3 b c j _ (gcell x0) (gcell x1) (gcell e0) (gcell e1) h (gcell hx) (by omega)
  · rw [if_neg h] at hR
    obtain ⟨b, c, rfl, _, _, e0, e1⟩ := row_told hR
    obtain ⟨a, ha, hx⟩ := Kd.at_int r1 ((j - l0.length : Nat) : Int) (by omega) (by omega)
    subst ha
    have hv : cstOf l0 l1 j = rd l1 ((j - l0.length : Nat) : Int) := by unfold cstOf rd; simp [List.getElem?_append, h]
    rw [hv]
    exact cost_any1 _ a A0 l1.length l0.length c1 c0 p2 p3 b c (j - l0.length) _ (gcell x0) (gcell x1) (gcell e0) (gcell e1) (by omega) (gcell hx) (by omega)

theorem cmp_lays {w w3 : World} {base blk pf p2 p3 c0 c1 : Nat} {ok : Nat → Prop} {vals : List Value} {A0 A1 : Option Addr} {l0 l1 : List Int} (hn : 0 < l0.length + l1.length)
    (hR : ∀ j, j < l0.length + l1.length → Kd.R (Kd.int .i64) 3 w base (fun k => ok k ∧ k ≠ blk) (vals.getD j (.slice none 0 0)) (rowOf l0.length j))
    (hB : Below w3.heap.size w3 w) (hg : w3.heap.size ≤ blk) (hblk : blk < w.heap.size) (r0 : Kd.C (Kd.int .i64) w3 A0 l0.length l0) (r1 : Kd.C (Kd.int .i64) w3 A1 l1.length l1)
    (hf : w.cell? ⟨pf, 0, none⟩ = some (.func (.func 48) #[] #[.pointer (some ⟨p2, 0, none⟩), .pointer (some ⟨p3, 0, none⟩)])) (npf : pf ≠ blk)
    (x0 : w.cell? ⟨p2, 0, none⟩ = some (.slice A0 l0.length c0)) (n2 : p2 ≠ blk) (x1 : w.cell? ⟨p3, 0, none⟩ = some (.slice A1 l1.length c1)) (n3 : p3 ≠ blk)
    (hl0 : l0.length < 12) (hl1 : l1.length < 12) (hc : ∀ j, 0 ≤ cstOf l0 l1 j ∧ cstOf l0 l1 j ≤ 100) :
    CmpLays1 Try.prog 50 #[.pointer (some ⟨pf, 0, none⟩)] (encV vals (l0.length + l1.length)) (fun x y => cstC l0 l1 (l0.length + l1.length) y - cstC l0 l1 (l0.length + l1.length) x) blk 0 (l0.length + l1.length) w := by
  intro m os dk hs x y
  have cl : ∀ z, clampJ (l0.length + l1.length) z < l0.length + l1.length := fun z => by unfold clampJ; split <;> omega
  have bl := fun k hk hl => sw_block (encV vals (l0.length + l1.length)) w blk 0 m dk os k hk hl
  have hW := sw_below (enc := encV vals (l0.length + l1.length)) hB hg hblk m dk os
  have ce : ∀ {b o : Nat} {v : Value}, w.cell? ⟨b, o, none⟩ = some v → b ≠ blk → (sortWorld (encV vals (l0.length + l1.length)) w blk 0 m dk os).cell? ⟨b, o, none⟩ = some v := fun {b o v} h hne => by
    have := bl b hne (World.block_lt_of_cell? w _ h)
    simp only [World.cell?, this]
    exact h
  have hl : ∀ z n os', Calls Try.prog 48 #[encV vals (l0.length + l1.length) z, .pointer (some ⟨p2, 0, none⟩), .pointer (some ⟨p3, 0, none⟩)] (grow ((sortWorld (encV vals (l0.length + l1.length)) w blk 0 m dk os).drewN n) os') fun e w' => e = .returned (.int .i64 (cstC l0 l1 (l0.length + l1.length) z)) ∧ ∃ q os'', w' = grow ((grow ((sortWorld (encV vals (l0.length + l1.length)) w blk 0 m dk os).drewN n) os').drewN q) os'' := fun z n os' =>
    line_cost (Kd.R_step (hR _ (cl z)) (fun k hk hl => bl k hk.2 hl)) (cl z) (ce x0 n2) (ce x1 n3) (Kd.C_below r0 hW) (Kd.C_below r1 hW) hl0 hl1 n os'
  exact cmp_any _ _ _ pf p2 p3 _ _ (ce hf npf) (hl x) (hl y) (hc _) (hc _)

theorem ordI_congr {c1 c2 : Nat → Int} {n : Nat} (h : ∀ j, j < n → c1 j = c2 j) : ∀ c, ordI c1 n c = ordI c2 n c
  | 0 => by
    unfold ordI
    exact List.filter_congr (fun j hj => by rw [h j (List.mem_range.mp hj)])
  | c + 1 => by
    unfold ordI
    rw [ordI_congr h c]
    congr 1
    exact List.filter_congr (fun j hj => by rw [h j (List.mem_range.mp hj)])

theorem encV_range {vals : List Value} {n : Nat} (h : vals.length = n) : (List.range n).map (encV vals n) = vals := by
  apply List.ext_getElem
  · simp [h]
  · intro i h1 h2
    have hi : i < n := by simpa using h1
    simp [encV, clampJ, hi, h2]

theorem rows_sorted {w : World} {base blk cap m p n : Nat} {ok : Nat → Prop} {vals : List Value} {d' : Array Nat} {os : Array Obj} (hok : ok blk) (hv : vals.length = n) (hO : w.ownsRow base 41 1 (.slice (some ⟨blk, 0, none⟩) n cap) n vals)
    (hR : ∀ j, j < n → Kd.R (Kd.int .i64) 3 w base (fun k => ok k ∧ k ≠ blk) (vals.getD j (.slice none 0 0)) (rowOf p j)) (hd : d'.size = n) (hm : ∀ j, j ∈ d'.toList → j < n) (hblk : blk < w.heap.size) :
    Kd.R (Kd.slice 3 (Kd.int .i64)) 41 (sortWorld (encV vals n) w blk 0 m d' os) base ok (.slice (some ⟨blk, 0, none⟩) n cap) (d'.toList.map (rowOf p)) := by
  have hlen : d'.toList.length = n := by simpa using hd
  have e0 : w.ownsRow base 41 1 (.slice (some ⟨blk, 0, none⟩) n cap) n ((List.range n).map (encV vals n)) := by rw [encV_range hv]; exact hO
  have e1 := ownsRow_putRow (enc := encV vals n) (q := m) (k := n) (zs := List.range n) (ys := d'.toList) e0 hlen (Nat.le_refl _)
  rw [List.take_of_length_le (Nat.le_of_eq hlen), Array.toArray_toList] at e1
  refine ⟨fun k hk => ?_, d'.toList.map (encV vals n), ?_, ?_, ?_⟩
  · have : blk = k := by simpa [Value.ownBlock] using hk
    exact this ▸ hok
  · rw [List.length_map, hlen]
    refine own_move e1 (fun k hk => ?_)
    have : blk = k := by simpa [Value.ownBlock] using hk
    subst this
    unfold sortWorld
    exact heap_grow_old _ _ (by rw [size_putRow]; exact hblk)
  · simp [Kd.slice]
  · intro j q hq
    rw [List.getElem?_map] at hq
    obtain ⟨z, hz, rfl⟩ := Option.map_eq_some_iff.mp hq
    have hz' : z < n := hm z (List.mem_of_getElem? hz)
    refine ⟨encV vals n z, ?_, ?_⟩
    · show (List.drop (j * 1) (List.map (encV vals n) d'.toList)).take 1 = _
      rw [Nat.mul_one]
      have hj : j < d'.toList.length := (List.getElem?_eq_some_iff.mp hz).1
      have hz2 := (List.getElem?_eq_some_iff.mp hz).2
      rw [← List.map_drop, List.drop_eq_getElem_cons hj, hz2]
      rfl
    · have hc : encV vals n z = vals.getD z (.slice none 0 0) := by unfold encV clampJ; rw [if_pos hz']
      rw [hc]
      refine Kd.R_mono (Kd.R_step (hR z hz') (fun k hk hl => sw_block (encV vals n) w blk 0 m d' os k hk.2 hl)) (fun k hk => ⟨hk.1, fun e => ?_⟩)
      have : k = blk := by simpa [Value.ownBlock] using e
      exact hk.2 this

set_option maxHeartbeats 4000000 in
theorem sort_lines {w w3 : World} {base pf p2 p3 c0 c1 : Nat} {ok : Nat → Prop} {v : Value} {A0 A1 : Option Addr} {l0 l1 : List Int} (hn : 0 < l0.length + l1.length)
    (hS : Kd.R (Kd.slice 3 (Kd.int .i64)) 41 w base ok v ((List.range (l0.length + l1.length)).map (rowOf l0.length))) (hb : w3.heap.size ≤ base)
    (hB : Below w3.heap.size w3 w) (r0 : Kd.C (Kd.int .i64) w3 A0 l0.length l0) (r1 : Kd.C (Kd.int .i64) w3 A1 l1.length l1)
    (hf : w.cell? ⟨pf, 0, none⟩ = some (.func (.func 48) #[] #[.pointer (some ⟨p2, 0, none⟩), .pointer (some ⟨p3, 0, none⟩)])) (npf : ¬ ok pf)
    (x0 : w.cell? ⟨p2, 0, none⟩ = some (.slice A0 l0.length c0)) (n2 : p2 < base) (x1 : w.cell? ⟨p3, 0, none⟩ = some (.slice A1 l1.length c1)) (n3 : p3 < base)
    (hl0 : l0.length < 12) (hl1 : l1.length < 12) (hc : ∀ j, 0 ≤ cstOf l0 l1 j ∧ cstOf l0 l1 j ≤ 100) :
    Calls Try.prog 49 #[v, .func (.func 50) #[] #[.pointer (some ⟨pf, 0, none⟩)]] w fun e w' => e = .returned (.tuple #[]) ∧ Kd.R (Kd.slice 3 (Kd.int .i64)) 41 w' base ok v ((ordI (cstOf l0 l1) (l0.length + l1.length) 100).map (rowOf l0.length)) ∧ Below base w w' := by
  have hrl : ((List.range (l0.length + l1.length)).map (rowOf l0.length)).length = l0.length + l1.length := by simp
  obtain ⟨blk, cap, vals, rfl, hok, hbb, hO, hv, hR⟩ := rows_told hS (by rw [hrl]; exact hn)
  rw [hrl] at hO hv hR
  rw [hrl]
  have hblk : blk < w.heap.size := own_lt hO blk rfl
  have hR' : ∀ j, j < l0.length + l1.length → Kd.R (Kd.int .i64) 3 w base (fun k => ok k ∧ k ≠ blk) (vals.getD j (.slice none 0 0)) (rowOf l0.length j) := fun j hj => by
    have := hR j hj
    rwa [show ((List.range (l0.length + l1.length)).map (rowOf l0.length)).getD j [] = rowOf l0.length j by simp [hj]] at this
  have hcl := cmp_lays (base := base) hn hR' hB (by omega) hblk r0 r1 hf (fun e => npf (e ▸ hok)) x0 (by omega) x1 (by omega) hl0 hl1 hc
  have e0 : w.ownsRow base 41 1 (.slice (some ⟨blk, 0, none⟩) (l0.length + l1.length) cap) (l0.length + l1.length) ((List.range (l0.length + l1.length)).map (encV vals (l0.length + l1.length))) := by rw [encV_range hv]; exact hO
  obtain ⟨g, cap', hg1, _, _, _, _, _, hH⟩ := holds_of_ownsRow e0 (by simp)
  cases hg1
  have hds : (List.range (l0.length + l1.length)).toArray.size = l0.length + l1.length := by simp
  have eg : ∀ args w, (callFunc 50 args).run Try.prog w = .ok (.enter 50 args) w := enters_of Try.func50 (by kernel_rfl) rfl
  have hone : OneCell (encV vals (l0.length + l1.length)) := fun x => by
    have cl : clampJ (l0.length + l1.length) x < l0.length + l1.length := by unfold clampJ; split <;> omega
    obtain ⟨A, c, e⟩ := Kd.R_slice (hR' _ cl)
    unfold encV
    rw [e]; rfl
  have hs := sort_any (encV vals (l0.length + l1.length)) (cstC l0 l1 (l0.length + l1.length)) 50 #[.pointer (some ⟨pf, 0, none⟩)] blk 0 cap (l0.length + l1.length) (List.range (l0.length + l1.length)).toArray w eg (by rw [hds]; exact hcl) ⟨hone, hH, hblk⟩ hds (by omega)
    (fun i j h1 h2 h3 => by rw [getElem!_pos _ i (by rw [hds]; omega), getElem!_pos _ j (by rw [hds]; exact h3)]; simpa using h2)
  refine hs.mono ?_
  rintro e w' ⟨rfl, d', hM, m, os, rfl⟩
  have hz : d'.size = l0.length + l1.length := by rw [hM.1.1]; exact hds
  have ho : d'.toList = ordI (cstOf l0 l1) (l0.length + l1.length) 100 := by
    rw [merged_ordI (cst := cstC l0 l1 (l0.length + l1.length)) (c := 100) (fun j hj => hc _) hM]
    exact ordI_congr (fun j hj => by unfold cstC clampJ; rw [if_pos hj]) 100
  rw [← ho]
  refine ⟨rfl, rows_sorted hok hv hO hR' hz (fun j hj => ?_) hblk, sw_below (Below.refl _ _) hbb hblk m d' os⟩
  rw [ho] at hj
  exact (mem_ordI hj).1
end Go.Proofs.Ytkoplphcdkmilaa.All
end
section
namespace Go.Proofs.Ytkoplphcdkmilaa.G
open Go.RowKit Go.Proofs.YtkoplphcdkmilaaW.PrintWords Go.Proofs.YtkoplphcdkmilaaW.PrintLast Go.Proofs.YtkoplphcdkmilaaW.PrintMore
set_option linter.unusedVariables false

section
variable {α : Type}
structure Sieve (p : α → Bool) (l0 : List α) (i j : Nat) (L : List α) : Prop where
  len : L.length = l0.length
  lt : i < j
  le : j ≤ l0.length
  low : L.take i = (l0.take j).filter (fun x => !p x)
  high : L.drop j = l0.drop j
theorem Sieve.skip {p : α → Bool} {l0 L : List α} {i j : Nat} (h : Sieve p l0 i j L) (z : α) (hj : j < l0.length) (hp : p (l0.getD j z) = true) : Sieve p l0 i (j + 1) L := by
  refine ⟨h.len, by have := h.lt; omega, hj, ?_, ?_⟩
  · rw [List.take_succ_eq_append_getElem hj, List.filter_append, ← h.low]
    have : p l0[j] = true := by simpa [List.getD_eq_getElem?_getD, hj] using hp
    simp [this]
  · rw [← List.drop_drop, ← List.drop_drop, h.high]
theorem Sieve.at {p : α → Bool} {l0 L : List α} {i j : Nat} (h : Sieve p l0 i j L) (z : α) (hj : j < l0.length) : L.getD j z = l0.getD j z := by
  have h1 : (L.drop j)[0]? = (l0.drop j)[0]? := by rw [h.high]
  simp only [List.getElem?_drop, Nat.add_zero] at h1
  rw [List.getD_eq_getElem?_getD, List.getD_eq_getElem?_getD, h1]
theorem Sieve.done {p : α → Bool} {l0 L : List α} {i : Nat} (h : Sieve p l0 i l0.length L) : L.take i = l0.filter (fun x => !p x) := by
  rw [h.low, List.take_length]
theorem Sieve.start {p : α → Bool} {l0 : List α} {i : Nat} (z : α) (hi : i < l0.length) (ht : p (l0.getD i z) = true) (hn : ∀ j, j < i → p (l0.getD j z) = false) : Sieve p l0 i (i + 1) l0 := by
  refine ⟨rfl, by omega, hi, ?_, rfl⟩
  have e : p l0[i] = true := by simpa [List.getD_eq_getElem?_getD, hi] using ht
  rw [List.take_succ_eq_append_getElem hi, List.filter_append]
  have e2 : (l0.take i).filter (fun x => !p x) = l0.take i := by
    rw [List.filter_eq_self]
    intro x hx
    obtain ⟨j, hj, rfl⟩ := List.mem_iff_getElem.1 hx
    rw [List.length_take] at hj
    have := hn j (by omega)
    rw [List.getElem_take]
    have h3 : l0.getD j z = l0[j]'(by omega) := by simp [List.getD_eq_getElem?_getD, show j < l0.length by omega]
    rw [h3] at this
    simp [this]
  simp [e, e2]
def idxOf (p : α → Bool) : List α → Nat → Int
  | [], _ => -1
  | x :: r, i => if p x then (i : Int) else idxOf p r (i + 1)
theorem idxOf_hit (p : α → Bool) (z : α) : ∀ (l : List α) (i k : Nat), k < l.length → p (l.getD k z) = true → (∀ j, j < k → p (l.getD j z) = false) → idxOf p l i = ((i + k : Nat) : Int)
  | [], _, _, h, _, _ => by simp at h
  | x :: r, i, 0, _, h, _ => by
    have : p x = true := by simpa using h
    simp [idxOf, this]
  | x :: r, i, k + 1, hk, h, hn => by
    have h0 : p x = false := by simpa using hn 0 (by omega)
    rw [idxOf, h0, if_neg (by simp), idxOf_hit p z r (i + 1) k (by simpa using hk) (by simpa using h) (fun j hj => by simpa using hn (j + 1) (by omega))]
    congr 1; omega
theorem idxOf_miss (p : α → Bool) (z : α) : ∀ (l : List α) (i : Nat), (∀ j, j < l.length → p (l.getD j z) = false) → idxOf p l i = -1
  | [], _, _ => rfl
  | x :: r, i, hn => by
    have h0 : p x = false := by simpa using hn 0 (by simp)
    rw [idxOf, h0, if_neg (by simp)]
    exact idxOf_miss p z r (i + 1) (fun j hj => by simpa using hn (j + 1) (by simpa using hj))
theorem idxOf_nonneg (p : α → Bool) : ∀ (l : List α) (i : Nat), decide (0 ≤ idxOf p l i) = l.any p
  | [], _ => by simp [idxOf]
  | x :: r, i => by
    rw [idxOf]
    cases h : p x
    · simp only [List.any_cons, h, Bool.false_or]
      rw [if_neg (by simp)]
      exact idxOf_nonneg p r (i + 1)
    · simp [h]
end
end Go.Proofs.Ytkoplphcdkmilaa.G
end
section
namespace Go.Proofs.Ytkoplphcdkmilaa.All
open Go.RowKit Go.Proofs.YtkoplphcdkmilaaW.PrintWords Go.Proofs.YtkoplphcdkmilaaW.PrintLast Go.Proofs.YtkoplphcdkmilaaW.PrintMore Go.Shelf Go.Proofs.Ytkoplphcdkmilaa.G
set_option linter.unusedVariables false
set_option linter.unusedSimpArgs false

set_option maxHeartbeats 2000000 in
theorem index_int (g : Nat) (lb : Array Value) (eg : ∀ args w, (callFunc g args).run Try.prog w = .ok (.enter g args) w) (p : Int → Bool) (A0 : Option Addr) (c0 : Nat) (l0 : List Int) (w : World) (hr0 : Kd.C (Kd.int .i64) w A0 l0.length l0)
    (hp : ∀ (W : World) (x : Int), Below w.heap.size w W → Calls Try.prog g (#[.int .i64 x] ++ lb) W fun e w' => e = .returned (.bool (p x)) ∧ Below W.heap.size W w') :
    Calls Try.prog 76 #[.slice A0 l0.length c0, .func (.func g) #[] lb] w fun e w' => e = .returned (.int .i64 (idxOf p l0 0)) ∧ Below w.heap.size w w' := by
  have hl : l0.length ≤ 9223372036854775807 := hr0.2.1
  have HR0 := Aside0.mk hr0
  clear hr0
  have HP := Aside0.mk hp
  clear hp
  go_enter Try.func76, Try.ntmps76
  go_wp2
  go_loopg [5, 8] l0.length (fun gg _ s8 wr => ∃ kk : Nat, kk ≤ l0.length ∧ l0.length - kk ≤ gg ∧ s8 = .int .i64 kk ∧ Aside0 (Below w.heap.size w wr) ∧ Aside0 (∀ j, j < kk → p (l0.getD j 0) = false))
  case atStart => exact ⟨0, Nat.zero_le _, by omega, rfl, ⟨Below.refl _ w⟩, ⟨fun j hj => absurd hj (Nat.not_lt_zero _)⟩⟩
  case round =>
    obtain ⟨kk, hkk, hg, rfl, BW, AF⟩ := hrel
    by_cases hlt : kk < l0.length
    · have hltz : (kk : Int) < (l0.length : Int) := by omega
      obtain ⟨ad, e, hx0⟩ := Kd.at_int HR0.out (kk : Int) (by omega) hltz
      cases e
      replace hx0 := (BW.out.cell (World.block_lt_of_cell? w _ hx0)).trans hx0
      simp only [Int.toNat_natCast] at hx0
      have hcall := HP.out wr (rd l0 (kk : Int)) BW.out
      have B : Aside0 (l0.getD kk 0 = rd l0 (kk : Int)) := ⟨by simp [rd]⟩
      generalize rd l0 (kk : Int) = y at hx0 hcall B
      cases hq : p y with
      | true =>
        rw [hq] at hcall
        go_wp2_with (go_at_fn g; refine hcall.mono ?_; rintro e w' ⟨rfl, hb'⟩)
        go_ret
        refine ⟨?_, below_then BW.out BW.out.size hb'⟩
        rw [idxOf_hit p 0 l0 0 kk hlt (by rw [B.out]; exact hq) AF.out]
        simp
      | false =>
        rw [hq] at hcall
        go_wp2_with (go_at_fn g; refine hcall.mono ?_; rintro e w' ⟨rfl, hb'⟩)
        go_roundg (l0.length - (kk + 1))
        case measure => omega
        case rel =>
          refine ⟨kk + 1, by omega, by omega, by go_num, ⟨below_then BW.out BW.out.size hb'⟩, ⟨fun j hj => ?_⟩⟩
          by_cases e : j = kk
          · subst e
            rw [B.out]; exact hq
          · exact AF.out j (by omega)
    · have hltz : ¬ (kk : Int) < (l0.length : Int) := by omega
      have hk : kk = l0.length := by omega
      subst hk
      go_wp2
      go_ret
      refine ⟨?_, BW.out⟩
      rw [idxOf_miss p 0 l0 0 AF.out]
      rfl

set_option maxHeartbeats 2000000 in
theorem contains_int (g : Nat) (lb : Array Value) (eg : ∀ args w, (callFunc g args).run Try.prog w = .ok (.enter g args) w) (p : Int → Bool) (A0 : Option Addr) (c0 : Nat) (l0 : List Int) (w : World) (hr0 : Kd.C (Kd.int .i64) w A0 l0.length l0)
    (hp : ∀ (W : World) (x : Int), Below w.heap.size w W → Calls Try.prog g (#[.int .i64 x] ++ lb) W fun e w' => e = .returned (.bool (p x)) ∧ Below W.heap.size W w') :
    Calls Try.prog 72 #[.slice A0 l0.length c0, .func (.func g) #[] lb] w fun e w' => e = .returned (.bool (l0.any p)) ∧ Below w.heap.size w w' := by
  have hIF := index_int g lb eg p A0 c0 l0 w hr0 hp
  rw [← idxOf_nonneg p l0 0]
  clear hr0 hp
  generalize idxOf p l0 0 = r at hIF
  go_enter Try.func72, Try.ntmps72
  go_wp2_with (go_at_call 76; refine hIF.mono ?_; rintro e w' ⟨rfl, hb⟩)
  go_ret
  exact ⟨rfl, hb⟩

set_option maxHeartbeats 2000000 in
theorem notWithin (W : World) (b1 b2 : Nat) (lo hi x : Int) (h1 : W.cell? ⟨b1, 0, none⟩ = some (.int .i64 lo)) (h2 : W.cell? ⟨b2, 0, none⟩ = some (.int .i64 hi)) :
    Calls Try.prog 73 #[.int .i64 x, .pointer (some ⟨b1, 0, none⟩), .pointer (some ⟨b2, 0, none⟩)] W fun e w' => e = .returned (.bool (!decide (lo ≤ x ∧ x ≤ hi))) ∧ Below W.heap.size W w' := by
  have hw : impl_within.f x lo hi = some (decide (lo ≤ x ∧ x ≤ hi)) := by
    unfold impl_within.f
    by_cases h : lo ≤ x
    · simp [h]
    · simp [h]
  have hc := fun w => impl_within.calls x lo hi _ w hw
  clear hw
  generalize decide (lo ≤ x ∧ x ≤ hi) = b at hc
  go_enter Try.func73, Try.ntmps73
  go_wp2_with (go_at_call 37; refine (hc _).mono ?_; rintro e w' ⟨rfl, hb'⟩)
  go_ret
  exact ⟨rfl, (by first | exact hb' | exact hb'.below)⟩

def impl_areWithin.f (l0 : List Int) (a1 a2 : Int) : Option Bool := some (!(l0.any fun x => !decide (a1 ≤ x ∧ x ≤ a2)))
set_option maxHeartbeats 2000000 in
theorem impl_areWithin.calls (A0 : Option Addr) (c0 : Nat) (l0 : List Int) (a1 : Int) (a2 : Int) (r : Bool) (w : World) (hr0 : Kd.C (Kd.int .i64) w A0 l0.length l0) (hc0 : l0.length ≤ c0) (h : impl_areWithin.f l0 a1 a2 = some r) :
    Calls Try.prog 63 #[.slice A0 l0.length c0, .int .i64 a1, .int .i64 a2] w fun e w' => e = .returned (.bool r) ∧ Below w.heap.size w w' := by
  unfold impl_areWithin.f at h
  injection h with h
  have eg : ∀ args w, (callFunc 73 args).run Try.prog w = .ok (.enter 73 args) w := enters_of Try.func73 (by kernel_rfl) rfl
  have HC := Aside0.mk (Kd.C_alloc (Kd.C_alloc hr0 (.cells #[.int .i64 a1] 3)) (.cells #[.int .i64 a2] 3))
  have hcall : Calls Try.prog 72 #[.slice A0 l0.length c0, .func (.func 73) #[] #[.pointer (some ⟨w.heap.size, 0, none⟩), .pointer (some ⟨w.heap.size + 1, 0, none⟩)]] ((w.alloc (.cells #[.int .i64 a1] 3)).alloc (.cells #[.int .i64 a2] 3)) fun e w' => e = .returned (.bool (l0.any fun x => !decide (a1 ≤ x ∧ x ≤ a2))) ∧ Below w.heap.size w w' := by
    refine (contains_int 73 #[.pointer (some ⟨w.heap.size, 0, none⟩), .pointer (some ⟨w.heap.size + 1, 0, none⟩)] eg (fun x => !decide (a1 ≤ x ∧ x ≤ a2)) A0 c0 l0 _ HC.out (fun W x hW => ?_)).mono ?_
    · have b1 : ((w.alloc (.cells #[.int .i64 a1] 3)).alloc (.cells #[.int .i64 a2] 3)).heap[w.heap.size]? = some (.cells #[.int .i64 a1] 3 (0, 0)) := blk_alloc (blk_new w _) _
      have b2 : ((w.alloc (.cells #[.int .i64 a1] 3)).alloc (.cells #[.int .i64 a2] 3)).heap[w.heap.size + 1]? = some (.cells #[.int .i64 a2] 3 (0, 0)) := by
        have hn : w.heap.size + 1 = (w.alloc (.cells #[.int .i64 a1] 3)).heap.size := by simp
        rw [hn]
        exact blk_new _ _
      exact notWithin W _ _ a1 a2 x ((blk_cell (blk_below b1 hW) 0).trans rfl) ((blk_cell (blk_below b2 hW) 0).trans rfl)
    · rintro e w' ⟨rfl, hb⟩
      exact ⟨rfl, below_then (below_alloc (below_alloc (Below.refl _ _) _) _) (by simp; omega) hb⟩
  rw [← h]
  generalize (l0.any fun x => !decide (a1 ≤ x ∧ x ≤ a2)) = b at hcall
  clear hr0 h
  go_enter Try.func63, Try.ntmps63
  go_wp2_with (go_at_call 72; refine hcall.mono ?_; rintro e w' ⟨rfl, hb⟩)
  go_ret
  exact ⟨rfl, hb⟩
end Go.Proofs.Ytkoplphcdkmilaa.All
end
section
namespace Go.Proofs.Ytkoplphcdkmilaa.All
open Go.RowKit Go.Proofs.YtkoplphcdkmilaaW.PrintWords Go.Proofs.YtkoplphcdkmilaaW.PrintLast Go.Proofs.YtkoplphcdkmilaaW.PrintMore
attribute [local go_sem] max2_int min2_int max_two min_two max_three min_three max_four min_four   -- for this text's walks alone
set_option linter.unusedVariables false
set_option linter.unusedSimpArgs false

def impl_areLines.f (l0 : List Int) : Option (Bool) := if (l0.length : Int) < 12 then ((impl_areWithin.f l0 0 100).bind fun t305 => (some t305)) else (some false)
set_option maxHeartbeats 8000000 in
set_option maxRecDepth 100000 in
theorem impl_areLines.calls (A0 : Option Addr) (c0 : Nat) (l0 : List Int) (r : Bool) (w : World) (hr0 : Kd.C (Kd.int .i64) w A0 l0.length l0) (hc0 : l0.length ≤ c0) (h : impl_areLines.f l0 = some r) :
    Calls Try.prog 47 #[.slice A0 l0.length c0] w fun e w' => e = .returned (.bool r) ∧ Below w.heap.size w w' := by
  have HR0 := Aside0.mk hr0
  have HC0 := Aside0.mk hc0
  clear hr0 hc0
  have HB := Aside0.mk (Below.refl w.heap.size w)
  have H : (if (l0.length : Int) < 12 then ((impl_areWithin.f l0 0 100).bind fun t305 => (some t305)) else (some false)) = some r := h
  clear h
  by_cases c2 : (l0.length : Int) < 12
  · rw [if_pos c2] at H
    have c2b0 : decide ((l0.length : Int) < 12) = true := decide_eq_true c2
    have c2b1 : decide (l0.length < 12) = true := decide_eq_true (by omega)
    clear c2
    replace H := Option.bind_eq_some_iff.mp H
    obtain ⟨t305, A30, H⟩ := H
    replace H : (some t305) = some r := H
    have A3 := Aside0.mk A30
    clear A30
    obtain rfl := Option.some.inj H
    go_enter Try.func47, Try.ntmps47
    go_wp2_with (first | (go_at_call 63; (with_reducible refine (impl_areWithin.calls _ _ l0 0 100 t305 _ ?side1 ?side2 A3.out).mono ?_); (case side1 => repeat (first | exact HR0.out | (with_reducible refine Kd.C_alloc ?_ _) | (with_reducible refine Kd.C_drewN ?_ _) | (with_reducible refine Kd.C_drew ?_))); (case side2 => exact HC0.out); rintro e w4 ⟨rfl, hb⟩; have n0_ := Aside0.mk (below_step (by repeat (first | (with_reducible first | exact HB.out | apply below_alloc | apply pw_below_drewN | apply below_drew1) | exact HB.out)) hb); clear HB; have HB := n0_; clear n0_; (try clear hb); (try clear hb2); (try clear hk); (try clear hi)))
    go_ret
    exact ⟨by first | rfl | (simp [errW_none, errW_some] <;> rfl) | (simp [*, errW_none, errW_some] <;> rfl), by repeat (first | (with_reducible first | exact HB.out | apply below_alloc | apply pw_below_drewN | apply below_drew1) | exact HB.out)⟩
  · rw [if_neg c2] at H
    have c2b0 : decide ((l0.length : Int) < 12) = false := decide_eq_false c2
    have c2b1 : decide (l0.length < 12) = false := decide_eq_false (by omega)
    clear c2
    obtain rfl := Option.some.inj H
    go_enter Try.func47, Try.ntmps47
    go_wp2
    go_ret
    exact ⟨by first | rfl | (simp [errW_none, errW_some] <;> rfl) | (simp [*, errW_none, errW_some] <;> rfl), by repeat (first | (with_reducible first | exact HB.out | apply below_alloc | apply pw_below_drewN | apply below_drew1) | exact HB.out)⟩

end Go.Proofs.Ytkoplphcdkmilaa.All
end
