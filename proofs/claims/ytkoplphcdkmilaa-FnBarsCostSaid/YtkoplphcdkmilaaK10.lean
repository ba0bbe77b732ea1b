/- Texts of this claim joined, in the order in which they build: PSpec, GTab, GSCnt. -/
import Derived.Test.YtkoplphcdkmilaaK09
section
namespace Go.Proofs.Ytkoplphcdkmilaa.PSpec
open Go.RowKit Go.Proofs.Ytkoplphcdkmilaa.All Go.Proofs.YtkoplphcdkmilaaW.PrintWords Go.Proofs.YtkoplphcdkmilaaW.PrintLast Go.Proofs.YtkoplphcdkmilaaW.PrintMore Go.Proofs.Ytkoplphcdkmilaa.PEv Go.Proofs.Ytkoplphcdkmilaa.PCount Go.Proofs.Ytkoplphcdkmilaa.GBar Go.Proofs.Ytkoplphcdkmilaa.PImpl
set_option linter.unusedVariables false
set_option linter.unusedSimpArgs false

theorem over1 {o n : Nat} (hn : 1 ≤ n) (h : 1000000000000001 / n < o) : cap < n * o := by
  have h1 := Nat.div_add_mod 1000000000000001 n
  have h2 := Nat.mod_lt 1000000000000001 hn
  have h3 : n * (1000000000000001 / n + 1) ≤ n * o := Nat.mul_le_mul_left _ h
  rw [Nat.mul_add, Nat.mul_one] at h3
  unfold cap
  omega
theorem under1 {o n : Nat} (h : o ≤ 1000000000000001 / n) : n * o ≤ cap := by
  have h3 := Nat.mul_le_mul_left n h
  have := Nat.mul_div_le 1000000000000001 n
  unfold cap
  omega
theorem times_eq (x y : Nat) (hx : 1 ≤ x) (lx : x ≤ cap) (ly : y ≤ cap) : spec_brTimes.f (x : Int) (y : Int) = some ((cut (x * y) : Nat) : Int) := by
  have lx' : x ≤ 1000000000000001 := lx
  have ly' : y ≤ 1000000000000001 := ly
  obtain ⟨q, hq⟩ : ∃ q, 1000000000000001 / x = q := ⟨_, rfl⟩
  have hdiv : q ≤ 1000000000000001 := by rw [← hq]; exact Nat.div_le_self _ _
  unfold spec_brTimes.f
  rw [if_pos (by omega), if_neg (by omega), show (1000000000000001 : Int) = ((1000000000000001 : Nat) : Int) from rfl, tdiv_nat, hq, wrap_in (x := (q : Int)) (by omega) (by omega)]
  by_cases h : q < y
  · have e := over1 (o := y) hx (by rw [hq]; exact h)
    rw [if_pos (by omega), cut_cap (by omega)]
    rfl
  · have e := under1 (o := y) (n := x) (by rw [hq]; omega)
    unfold cap at e
    rw [if_neg (by omega), ← Int.natCast_mul, wrap_in (by omega) (by omega), least_eq]
    simp only [Option.bind_some]
    congr 1
    unfold cut cap
    omega

def mixP (n s j : Nat) : List Int := (List.range (s + 1)).map (fun k => ((cut (bin (if j < k then n + 1 else n) k) : Nat) : Int))
theorem mixP_length (n s j : Nat) : (mixP n s j).length = s + 1 := by unfold mixP; simp
theorem mixP_rd (n s j : Nat) {i : Int} (h0 : 0 ≤ i) (h1 : i ≤ s) : rd (mixP n s j) i = ((cut (bin (if j < i.toNat then n + 1 else n) i.toNat) : Nat) : Int) := by
  unfold rd mixP
  rw [List.getD_eq_getElem?_getD, List.getElem?_map, List.getElem?_range (by omega)]
  rfl
theorem mixP_get (n s j i : Nat) (h : i < (mixP n s j).length) : (mixP n s j)[i] = ((cut (bin (if j < i then n + 1 else n) i) : Nat) : Int) := by
  simp only [mixP, List.getElem_map, List.getElem_range]
theorem mixP_set (n s j : Nat) (hj : j + 1 ≤ s) : (mixP n s (j + 1)).set (j + 1) ((cut (bin (n + 1) (j + 1)) : Nat) : Int) = mixP n s j := by
  apply List.ext_getElem
  · rw [List.length_set, mixP_length, mixP_length]
  · intro i h1 h2
    rw [List.getElem_set, mixP_get]
    by_cases h : j + 1 = i
    · subst h
      rw [if_pos rfl, mixP_get, if_pos (by omega)]
    · rw [if_neg h, mixP_get]
      by_cases h3 : j + 1 < i
      · rw [if_pos h3, if_pos (by omega)]
      · rw [if_neg h3, if_neg (by omega)]
theorem mixP_next (n s : Nat) : mixP n s 0 = mixP (n + 1) s s := by
  unfold mixP
  apply List.map_congr_left
  intro k hk
  rw [List.mem_range] at hk
  by_cases h : 0 < k
  · rw [if_pos h, if_neg (by omega)]
  · obtain rfl : k = 0 := by omega
    rw [if_neg (by omega), if_neg (by omega), bin_zero, bin_zero]
theorem mixP_start (s : Nat) : mixP 0 s s = (List.replicate (s + 1) (0 : Int)).set 0 1 := by
  apply List.ext_getElem
  · rw [List.length_set, mixP_length, List.length_replicate]
  · intro i h1 h2
    rw [List.getElem_set, mixP_get]
    simp only [List.getElem_replicate]
    rw [mixP_length] at h1
    rw [if_neg (by omega)]
    cases i with
    | zero => rfl
    | succ i => rw [if_neg (by omega)]; rfl
theorem brChoose_l1 (n s : Nat) (hs : s ≤ 1000) (x0 : Int) (r : Int) (hr : Ev (fun k => spec_brChoose.l0 k (wrap64 (x0 - 1)) (s : Int) (mixP n s 0)) r) : ∀ (j : Nat), j ≤ s → Ev (fun k => spec_brChoose.l1 k x0 (s : Int) (mixP n s j) (j : Int)) r
  | 0, _ => by
    refine Ev.step (f := fun k => spec_brChoose.l0 k (wrap64 (x0 - 1)) (s : Int) (mixP n s 0)) (fun k => ?_) hr
    simp only [spec_brChoose.l1]
    rw [if_neg (by omega)]
  | j + 1, hj => by
    have ih := brChoose_l1 n s hs x0 r hr j (by omega)
    refine Ev.step (f := fun k => spec_brChoose.l1 k x0 (s : Int) (mixP n s j) (j : Int)) (fun k => ?_) ih
    have c1 := cut_le (bin n (j + 1))
    have c2 := cut_le (bin n j)
    unfold cap at c1 c2
    simp only [spec_brChoose.l1]
    rw [wrap_in (x := ((j + 1 : Nat) : Int) - 1) (by omega) (by omega), if_pos (by omega), if_pos (by omega), if_pos (by rw [mixP_length]; omega), if_pos (by omega), if_pos (by rw [mixP_length]; omega)]
    rw [mixP_rd n s (j + 1) (by omega) (by omega), mixP_rd n s (j + 1) (by omega) (by omega), if_neg (by omega), if_neg (by omega)]
    rw [show (((j + 1 : Nat) : Int) - 1).toNat = j by omega, Int.toNat_natCast, wrap_in (by omega) (by omega), least_eq]
    simp only [Option.bind_some]
    have e : min (((cut (bin n (j + 1)) : Nat) : Int) + ((cut (bin n j) : Nat) : Int)) 1000000000000001 = ((cut (bin (n + 1) (j + 1)) : Nat) : Int) := by
      rw [show bin (n + 1) (j + 1) = bin n j + bin n (j + 1) from rfl, ← cut_add2]
      obtain ⟨u, hu⟩ : ∃ u, cut (bin n (j + 1)) = u := ⟨_, rfl⟩
      obtain ⟨v, hv⟩ : ∃ v, cut (bin n j) = v := ⟨_, rfl⟩
      rw [hu, hv]
      unfold cut cap
      omega
    rw [e, mixP_set n s j hj]
    congr 1
    omega
theorem brChoose_l0 (s : Nat) (hs : s ≤ 1000) (N : Nat) (hN : N ≤ 1000) : ∀ (d n : Nat), n + d = N → Ev (fun k => spec_brChoose.l0 k (d : Int) (s : Int) (mixP n s s)) ((cut (bin N s) : Nat) : Int)
  | 0, n, h => by
    obtain rfl : n = N := by omega
    refine Ev.step (f := fun _ => some ((cut (bin n s) : Nat) : Int)) (fun k => ?_) (Ev.now _)
    simp only [spec_brChoose.l0]
    rw [if_neg (by omega), if_pos (by omega), if_pos (by rw [mixP_length]; omega), mixP_rd n s s (by omega) (by omega), Int.toNat_natCast, if_neg (by omega)]
  | d + 1, n, h => by
    have ih := brChoose_l0 s hs N hN d (n + 1) (by omega)
    refine Ev.step (f := fun k => spec_brChoose.l1 k ((d + 1 : Nat) : Int) (s : Int) (mixP n s s) (s : Int)) (fun k => ?_) (brChoose_l1 n s hs _ _ ?_ s (Nat.le_refl _))
    · simp only [spec_brChoose.l0]
      rw [if_pos (by omega)]
    · rw [wrap_in (by omega) (by omega), show ((d + 1 : Nat) : Int) - 1 = (d : Int) by omega, mixP_next]
      exact ih
theorem brChoose_ev (n s : Nat) (hn : n ≤ 1000) (hs : s ≤ 1000) : Ev (fun k => spec_brChoose.f k (n : Int) (s : Int)) ((cut (bin n s) : Nat) : Int) := by
  have h := brChoose_l0 s hs n hn n 0 (by omega)
  refine Ev.congr (fun k => ?_) h
  unfold spec_brChoose.f
  rw [wrap_in (by omega) (by omega), show ((s : Int) + 1).toNat = s + 1 by omega, if_pos (by omega), if_pos (by omega)]
  simp only [Option.bind_some]
  rw [if_pos (by rw [List.length_replicate]; omega), mixP_start]
  rfl
theorem both_false (k : Nat) (a b s n r : Int) (h : spec_brTimes.f a b = some r) : spec_brBoth.f k a b s n false = some r := by
  unfold spec_brBoth.f
  rw [h, Option.bind_some, if_neg (by simp)]
theorem both_true (k : Nat) (a b s n r : Int) (h : spec_brTimes.f a b = some r) : spec_brBoth.f k a b s n true = (spec_brChoose.f k n s).bind (fun t => (spec_brTimes.f r t).bind fun t2 => some t2) := by
  unfold spec_brBoth.f
  rw [h, Option.bind_some, if_pos rfl]
theorem both_ev (o : Bool) (x y n s : Nat) (hx : 1 ≤ x) (hy : 1 ≤ y) (hn : n ≤ 1000) (hs : s ≤ n) : Ev (fun k => spec_brBoth.f k ((cut x : Nat) : Int) ((cut y : Nat) : Int) (s : Int) (n : Int) o) ((cut (x * y * way o n s) : Nat) : Int) := by
  have ht := times_eq (cut x) (cut y) (cut_pos hx) (cut_le _) (cut_le _)
  rw [cut_mul hx hy] at ht
  cases o with
  | false =>
    rw [show way false n s = 1 from rfl, Nat.mul_one]
    exact ⟨0, fun k _ => both_false k _ _ _ _ _ ht⟩
  | true =>
    rw [show way true n s = bin n s from rfl]
    have hc := brChoose_ev n s hn (by omega)
    have ht2 := times_eq (cut (x * y)) (cut (bin n s)) (cut_pos (one_le_mul hx hy)) (cut_le _) (cut_le _)
    rw [cut_mul (one_le_mul hx hy) (bin_pos n s hs)] at ht2
    obtain ⟨K, hK⟩ := hc
    refine ⟨K, fun k hk => ?_⟩
    have h1 : spec_brChoose.f k (n : Int) (s : Int) = some ((cut (bin n s) : Nat) : Int) := hK k hk
    have h2 := both_true k ((cut x : Nat) : Int) ((cut y : Nat) : Int) (s : Int) (n : Int) _ ht
    rw [h1, Option.bind_some, ht2, Option.bind_some] at h2
    exact h2
end Go.Proofs.Ytkoplphcdkmilaa.PSpec
end
section
namespace Go.Proofs.Ytkoplphcdkmilaa.GTab
open Go.RowKit Go.Proofs.YtkoplphcdkmilaaW.PrintWords Go.Proofs.YtkoplphcdkmilaaW.PrintLast Go.Proofs.YtkoplphcdkmilaaW.PrintMore Go.Maps Go.Joins Go.Proofs.Ytkoplphcdkmilaa.GBar
set_option linter.unusedVariables false
set_option linter.unusedSimpArgs false

def Row (e n : Nat) (p : Nat → Prop) (v : Nat → Value) (W : World) (g : Nat) : Prop := ∃ cs : Array Value, W.heap[g]? = some (.cells cs e (0, 0)) ∧ cs.size = n ∧ ∀ j, j < n → p j → cs[j]? = some (v j)
variable {e n : Nat} {p q : Nat → Prop} {v u : Nat → Value} {W W' : World} {g : Nat}
theorem Row.kept (h : Row e n p v W g) {row : Option Nat} (hg : W.grownBy W' row) (hne : some g ≠ row) : Row e n p v W' g := by
  obtain ⟨cs, h1, h2, h3⟩ := h
  exact ⟨cs, blk_grown' h1 hg hne, h2, h3⟩
theorem Row.new (h : Row e n p v W g) (hg : W.grownBy W' none) : Row e n p v W' g := h.kept hg (by simp)
theorem Row.lt (h : Row e n p v W g) : g < W.heap.size := by
  obtain ⟨cs, h1, _⟩ := h
  exact blk_lt h1
theorem Row.cell (h : Row e n p v W g) (j : Nat) (hj : j < n) (hp : p j) : W.cell? ⟨g, j, none⟩ = some (v j) := by
  obtain ⟨cs, h1, _, h3⟩ := h
  exact (blk_cell h1 j).trans (h3 j hj hp)
theorem Row.any (h : Row e n p v W g) (j : Nat) (hj : j < n) : ∃ x, W.cell? ⟨g, j, none⟩ = some x := by
  obtain ⟨cs, h1, h2, _⟩ := h
  exact ⟨_, (blk_cell h1 j).trans (Array.getElem?_eq_getElem (by omega))⟩
theorem Row.frozen (h : Row e n p v W g) (j : Nat) : W.frozen? ⟨g, j, none⟩ = false := by
  obtain ⟨cs, h1, _⟩ := h
  exact blk_frozen h1 j
theorem Row.imp (h : Row e n p v W g) (hp : ∀ j, j < n → q j → p j) (hv : ∀ j, j < n → q j → v j = u j) : Row e n q u W g := by
  obtain ⟨cs, h1, h2, h3⟩ := h
  exact ⟨cs, h1, h2, fun j hj hq => by rw [h3 j hj (hp j hj hq), hv j hj hq]⟩
theorem Row.put (h : Row e n p v W g) (i : Nat) (x : Value) (hq : ∀ j, j < n → q j → (j = i ∧ u j = x) ∨ (j ≠ i ∧ p j ∧ v j = u j)) : Row e n q u (W.setCell ⟨g, i, none⟩ x) g := by
  obtain ⟨cs, h1, h2, h3⟩ := h
  refine ⟨cs.setIfInBounds i x, blk_set h1 i x, by simpa using h2, fun j hj hqj => ?_⟩
  rcases hq j hj hqj with ⟨rfl, hu⟩ | ⟨hne, hp, hu⟩
  · rw [Array.getElem?_setIfInBounds_self, if_pos (by omega), hu]
  · rw [Array.getElem?_setIfInBounds_ne (by omega), h3 j hj hp, hu]
theorem Row.set_far (h : Row e n p v W g) {i N : Nat} {x : Value} (hne : g ≠ N) : Row e n p v (W.setCell ⟨N, i, none⟩ x) g := h.kept (set1_grown W N i x) (by simp; exact hne)
theorem Row.made (W : World) (z : Value) (m e : Nat) : Row e m (fun _ => True) (fun _ => z) (W.alloc (.cells (madeCells #[z] m) e)) W.heap.size := by
  refine ⟨_, blk_new W _, size_madeCells _ _, fun j hj _ => ?_⟩
  rw [← Array.getElem?_toList, toList_madeCells_one, List.getElem?_replicate, if_pos hj]
theorem Row.C {f : Nat → Int} (h : Row 3 n (fun _ => True) (fun j => .int .i64 (f j)) W g) (hn : n ≤ 9223372036854775807) : Kd.C (Kd.int .i64) W (some ⟨g, 0, none⟩) n ((List.range n).map f) := by
  obtain ⟨cs, h1, h2, h3⟩ := h
  have := C_block h1 ((List.range n).map f) (by simpa using hn) (fun i hi => by
    have hi' : i < n := by simpa using hi
    rw [h3 i hi' trivial, List.getElem_map, List.getElem_range])
  simpa using this

def Tab (Q : Nat → Nat → Prop) (e n : Nat) (len : Nat → Nat) (m : Nat) (W : World) (T : Nat) : Prop :=
  ∃ cs : Array Value, W.heap[T]? = some (.cells cs e (0, 0)) ∧ cs.size = n ∧ ∀ i, 1 ≤ i → i < m → i < n → ∃ g, cs[i]? = some (.slice (some ⟨g, 0, none⟩) (len i) (len i)) ∧ Q g i
variable {Q Q' : Nat → Nat → Prop} {len : Nat → Nat} {m T : Nat}
theorem Tab.kept (h : Tab Q e n len m W T) {row : Option Nat} (hg : W.grownBy W' row) (hne : some T ≠ row) (hQ : ∀ g i, Q g i → Q' g i) : Tab Q' e n len m W' T := by
  obtain ⟨cs, h1, h2, h3⟩ := h
  exact ⟨cs, blk_grown' h1 hg hne, h2, fun i a b c => by obtain ⟨g, h4, h5⟩ := h3 i a b c; exact ⟨g, h4, hQ g i h5⟩⟩
theorem Tab.lt (h : Tab Q e n len m W T) : T < W.heap.size := by
  obtain ⟨cs, h1, _⟩ := h
  exact blk_lt h1
theorem Tab.at (h : Tab Q e n len m W T) (i : Nat) (h1 : 1 ≤ i) (hm : i < m) (hn : i < n) : ∃ g, W.cell? ⟨T, i, none⟩ = some (.slice (some ⟨g, 0, none⟩) (len i) (len i)) ∧ Q g i := by
  obtain ⟨cs, h2, _, h3⟩ := h
  obtain ⟨g, h4, h5⟩ := h3 i h1 hm hn
  exact ⟨g, (blk_cell h2 i).trans h4, h5⟩
theorem Tab.any (h : Tab Q e n len m W T) (j : Nat) (hj : j < n) : ∃ x, W.cell? ⟨T, j, none⟩ = some x := by
  obtain ⟨cs, h1, h2, _⟩ := h
  exact ⟨_, (blk_cell h1 j).trans (Array.getElem?_eq_getElem (by omega))⟩
theorem Tab.frozen (h : Tab Q e n len m W T) (j : Nat) : W.frozen? ⟨T, j, none⟩ = false := by
  obtain ⟨cs, h1, _⟩ := h
  exact blk_frozen h1 j
theorem Tab.put (h : Tab Q e n len m W T) (g : Nat) (hQ : ∀ g' i, i < m → Q g' i → Q' g' i) (hg : Q' g m) : Tab Q' e n len (m + 1) (W.setCell ⟨T, m, none⟩ (.slice (some ⟨g, 0, none⟩) (len m) (len m))) T := by
  obtain ⟨cs, h1, h2, h3⟩ := h
  refine ⟨cs.setIfInBounds m _, blk_set h1 m _, by simpa using h2, fun i a b c => ?_⟩
  by_cases he : i = m
  · subst he
    exact ⟨g, by rw [Array.getElem?_setIfInBounds_self, if_pos (by omega)], hg⟩
  · obtain ⟨g', h4, h5⟩ := h3 i a (by omega) c
    exact ⟨g', by rw [Array.getElem?_setIfInBounds_ne (by omega), h4], hQ g' i (by omega) h5⟩
theorem Tab.made (W : World) (m e : Nat) (Q : Nat → Nat → Prop) (len : Nat → Nat) : Tab Q e m len 1 (W.alloc (.cells (madeCells #[.slice none 0 0] m) e)) W.heap.size :=
  ⟨_, blk_new W _, size_madeCells _ _, fun i a b _ => by omega⟩
theorem make_run {t e bytes : Nat} {z : Value} (ht : Try.prog.underlying t = some (.slice e)) (hinfo : (Try.prog.info? e).map (fun i => (i.zero, i.size, i.bytes)) = some (some z, 1, bytes)) (hz : z.cells = #[z]) (m : Nat) (x : Int) (hx : x = (m : Int)) (hm : bytes * m ≤ 281474976710656) (hm2 : m ≤ 1000000) (W : World) :
    (Instr.makeSlice t (.int .i64 x) (.int .i64 x)).run Try.prog W = .ok (.slice (some ⟨W.heap.size, 0, none⟩) m m) (W.alloc (.cells (madeCells #[z] m) e)) := by
  subst hx
  exact run_make_row' t e z bytes ht hinfo hz .i64 .i64 m hm (by omega) W
theorem below_new {B : Nat} {W w w' : World} {row : Option Nat} (h : Below B W w) (hg : w.grownBy w' row) (hr : ∀ r, row = some r → B ≤ r) (hB : B ≤ W.heap.size) : Below B W w' :=
  ⟨hg.os.trans h.os, hg.tape.trans h.tape, hg.output.trans h.output, Nat.le_trans h.size hg.size, fun i hi => (hg.block i (by have := h.size; omega) (fun e => by have := hr i e.symm; omega)).trans (h.block i hi)⟩
end Go.Proofs.Ytkoplphcdkmilaa.GTab
end
section
namespace Go.Proofs.Ytkoplphcdkmilaa.All
open Go.RowKit Go.Proofs.YtkoplphcdkmilaaW.PrintWords Go.Proofs.YtkoplphcdkmilaaW.PrintLast Go.Proofs.YtkoplphcdkmilaaW.PrintMore Go.Shelf Go.Maps Go.Joins Go.Proofs.Ytkoplphcdkmilaa.PEv Go.Proofs.Ytkoplphcdkmilaa.PCount Go.Proofs.Ytkoplphcdkmilaa.GBar Go.Proofs.Ytkoplphcdkmilaa.PImpl Go.Proofs.Ytkoplphcdkmilaa.PSpec Go.Proofs.Ytkoplphcdkmilaa.GTab
attribute [local go_sem] max2_int min2_int
set_option linter.unusedVariables false
set_option linter.unusedSimpArgs false

def sumN (o : Bool) (w h i : Nat) : Nat := (((cutsN w h).map (term o w h)).take i).sum
def accN (o : Bool) (i j k : Nat) : Nat := if i * j = 1 then 1 else cut (sumN o i j k)
theorem accN_le (o : Bool) (i j k : Nat) : accN o i j k ≤ cap := by
  unfold accN
  split
  · unfold cap; omega
  · exact cut_le _
theorem cutsN_down {w h t : Nat} (h1 : 1 ≤ t) (h2 : t < w) : (cutsN w h)[t - 1]? = some (true, t) := by
  unfold cutsN
  rw [List.getElem?_append_left (by simp; omega), List.getElem?_map, List.getElem?_range (by omega)]
  simp
  omega
theorem cutsN_across {w h t : Nat} (h1 : 1 ≤ t) (h2 : t < h) : (cutsN w h)[w - 1 + (t - 1)]? = some (false, t) := by
  unfold cutsN
  rw [List.getElem?_append_right (by simp), List.getElem?_map, List.length_map, List.length_range, show w - 1 + (t - 1) - (w - 1) = t - 1 by omega, List.getElem?_range (by omega)]
  simp
  omega
theorem accN_step (o : Bool) {i j k : Nat} {c : Bool × Nat} (hij : i * j ≠ 1) (hc : (cutsN i j)[k]? = some c) : cut (accN o i j k + cut (term o i j c)) = accN o i j (k + 1) := by
  obtain ⟨hk, rfl⟩ := List.getElem?_eq_some_iff.1 hc
  unfold accN
  rw [if_neg hij, if_neg hij, cut_add2]
  congr 1
  unfold sumN
  rw [sum_take_succ _ k (by rw [List.length_map]; exact hk), List.getElem_map]
theorem accN_full (o : Bool) {i j : Nat} (hi : 1 ≤ i) (hj : 1 ≤ j) : ((accN o i j (i - 1 + (j - 1)) : Nat) : Int) = cnt o i j := by
  unfold cnt
  simp only [Int.toNat_natCast]
  unfold accN
  split
  · next h => rw [N_one o h]; rfl
  · next h =>
    rw [N_rec o hi hj h]
    unfold sumN
    rw [List.take_of_length_le (by rw [List.length_map, cutsN_length]; exact Nat.le_refl _)]
theorem least_cut (x y : Nat) : min ((x : Int) + (y : Int)) 1000000000000001 = ((cut (x + y) : Nat) : Int) := by unfold cut cap; omega

def QC (o : Bool) (b T B : Nat) (W : World) (g i : Nat) : Prop := (T < g ∧ g < B) ∧ Row 3 (b + 1) (fun j => 1 ≤ j) (fun j => .int .i64 (cnt o i j)) W g
theorem QC.kept {o : Bool} {b T B B' : Nat} {W W' : World} {row : Option Nat} {g i : Nat} (h : QC o b T B W g i) (hB : B ≤ B') (hg : W.grownBy W' row) (hr : ∀ r, row = some r → B ≤ r ∨ r ≤ T) : QC o b T B' W' g i :=
  ⟨⟨h.1.1, Nat.lt_of_lt_of_le h.1.2 hB⟩, h.2.kept hg (fun e => by have := hr g e.symm; have := h.1; omega)⟩
theorem TabC.kept {o : Bool} {a b B B' m T : Nat} {W W' : World} {row : Option Nat} (h : Tab (QC o b T B W) 41 (a + 1) (fun _ => b + 1) m W T) (hT : T < B) (hB : B ≤ B') (hg : W.grownBy W' row) (hr : ∀ r, row = some r → B ≤ r) : Tab (QC o b T B' W') 41 (a + 1) (fun _ => b + 1) m W' T :=
  Tab.kept h hg (fun e => by have := hr T e.symm; omega) (fun g i hq => hq.kept hB hg (fun r hr' => .inl (hr r hr')))
theorem four_below {w5 w' w'' : World} {p1 p2 p3 p4 : Addr} {u v x y : Value} (h : w'.cell? p1 = some u ∧ w'.cell? p2 = some v ∧ w'.cell? p3 = some x ∧ w'.cell? p4 = some y ∧ w5.grownBy w' none) (hb : w'.grownBy w'' none) :
    w''.cell? p1 = some u ∧ w''.cell? p2 = some v ∧ w''.cell? p3 = some x ∧ w''.cell? p4 = some y ∧ w5.grownBy w'' none :=
  ⟨cell_grown h.1 hb (by simp), cell_grown h.2.1 hb (by simp), cell_grown h.2.2.1 hb (by simp), cell_grown h.2.2.2.1 hb (by simp), World.grownBy.trans h.2.2.2.2 hb⟩
theorem four_last {w5 w' : World} {p1 p2 p3 p4 : Addr} {u v x y : Value} (h : w'.cell? p1 = some u ∧ w'.cell? p2 = some v ∧ w'.cell? p3 = some x ∧ w'.cell? p4 = some y ∧ w5.grownBy w' none) : w5.grownBy w' none := h.2.2.2.2
theorem held2_below {w5 w' w'' : World} {p1 p2 : Addr} {u v : Value} (h : w'.cell? p1 = some u ∧ w'.cell? p2 = some v ∧ w5.grownBy w' none) (hb : w'.grownBy w'' none) :
    w''.cell? p1 = some u ∧ w''.cell? p2 = some v ∧ w5.grownBy w'' none :=
  ⟨cell_grown h.1 hb (by simp), cell_grown h.2.1 hb (by simp), World.grownBy.trans h.2.2 hb⟩
theorem held2_last {w5 w' : World} {p1 p2 : Addr} {u v : Value} (h : w'.cell? p1 = some u ∧ w'.cell? p2 = some v ∧ w5.grownBy w' none) : w5.grownBy w' none := h.2.2
theorem both_down (o : Bool) {i j t : Nat} (hi : i ≤ 12) (hj1 : 1 ≤ j) (hj : j ≤ 12) (h1 : 1 ≤ t) (h2 : t < i) : ∃ k, spec_brBoth.f k (cnt o t j) (cnt o (i - t : Nat) j) (((t * j : Nat) : Int) - 1) (((i * j : Nat) : Int) - 2) o = some ((cut (term o i j (true, t)) : Nat) : Int) := by
  have e1 : t * j + (i - t) * j = i * j := by rw [← Nat.add_mul, show t + (i - t) = i by omega]
  have e2 : 1 ≤ t * j := one_le_mul h1 hj1
  have e3 : 1 ≤ (i - t) * j := one_le_mul (by omega) hj1
  have e4 : i * j ≤ 12 * 12 := Nat.mul_le_mul hi hj
  obtain ⟨k, hk⟩ := (both_ev o (N o t j) (N o (i - t) j) (i * j - 2) (t * j - 1) (N_pos o _ _ _ (Nat.le_refl _) h1 hj1) (N_pos o _ _ _ (Nat.le_refl _) (by omega) hj1) (by omega) (by omega)).rounds
  refine ⟨k, ?_⟩
  rw [show ((t * j : Nat) : Int) - 1 = ((t * j - 1 : Nat) : Int) by omega, show ((i * j : Nat) : Int) - 2 = ((i * j - 2 : Nat) : Int) by omega]
  exact hk
theorem both_across (o : Bool) {i j t : Nat} (hj : j ≤ 12) (hi1 : 1 ≤ i) (hi : i ≤ 12) (h1 : 1 ≤ t) (h2 : t < j) : ∃ k, spec_brBoth.f k (cnt o i t) (cnt o i (j - t : Nat)) (((t * i : Nat) : Int) - 1) (((i * j : Nat) : Int) - 2) o = some ((cut (term o i j (false, t)) : Nat) : Int) := by
  have e1 : i * t + i * (j - t) = i * j := by rw [← Nat.mul_add, show t + (j - t) = j by omega]
  have e2 : 1 ≤ i * t := one_le_mul hi1 h1
  have e3 : 1 ≤ i * (j - t) := one_le_mul hi1 (by omega)
  have e4 : i * j ≤ 12 * 12 := Nat.mul_le_mul hi hj
  obtain ⟨k, hk⟩ := (both_ev o (N o i t) (N o i (j - t)) (i * j - 2) (i * t - 1) (N_pos o _ _ _ (Nat.le_refl _) hi1 h1) (N_pos o _ _ _ (Nat.le_refl _) hi1 (by omega)) (by omega) (by omega)).rounds
  refine ⟨k, ?_⟩
  rw [show t * i = i * t from Nat.mul_comm _ _, show ((i * t : Nat) : Int) - 1 = ((i * t - 1 : Nat) : Int) by omega, show ((i * j : Nat) : Int) - 2 = ((i * j - 2 : Nat) : Int) by omega]
  exact hk

set_option maxHeartbeats 4000000 in
set_option maxRecDepth 100000 in
theorem brCounts_any (a b : Nat) (hok : okB (a : Int) (b : Int)) (o : Bool) (W : World) :
    Calls Try.prog 29 #[.agg #[.int .i64 a, .int .i64 b], .bool o] W fun e w' => e = .returned (.int .i64 (cnt o a b)) ∧ Below W.heap.size W w' := by
  have hu25 := Try.underlying25
  have ha : 1 ≤ (a : Int) ∧ (a : Int) ≤ 12 := hok.1
  have hb : 1 ≤ (b : Int) ∧ (b : Int) ≤ 12 := hok.2
  have hmk1 := fun W => make_run Try.underlying45 info41 rfl (a + 1) ((a : Int) + 1) (by omega) (by omega) (by omega) W
  have hmk2 := fun W => make_run Try.underlying41 info3 rfl (b + 1) ((b : Int) + 1) (by omega) (by omega) (by omega) W
  have HOK := Aside0.mk hok
  clear hok
  go_enter Try.func29, Try.ntmps29
  go_wp2
  have HT0 : Aside0 (Tab (QC o b (W.heap.size + 1) ((W.alloc (.cells #[.int .i64 a, .int .i64 b] 25)).alloc (.cells (madeCells #[.slice none 0 0] (a + 1)) 41)).heap.size ((W.alloc (.cells #[.int .i64 a, .int .i64 b] 25)).alloc (.cells (madeCells #[.slice none 0 0] (a + 1)) 41))) 41 (a + 1) (fun _ => b + 1) 1 ((W.alloc (.cells #[.int .i64 a, .int .i64 b] 25)).alloc (.cells (madeCells #[.slice none 0 0] (a + 1)) 41)) (W.heap.size + 1)) := ⟨by
    have h := Tab.made (W.alloc (.cells #[.int .i64 a, .int .i64 b] 25)) (a + 1) 41 (QC o b (W.heap.size + 1) ((W.alloc (.cells #[.int .i64 a, .int .i64 b] 25)).alloc (.cells (madeCells #[.slice none 0 0] (a + 1)) 41)).heap.size ((W.alloc (.cells #[.int .i64 a, .int .i64 b] 25)).alloc (.cells (madeCells #[.slice none 0 0] (a + 1)) 41))) (fun _ => b + 1)
    rw [show (W.alloc (.cells #[.int .i64 a, .int .i64 b] 25)).heap.size = W.heap.size + 1 by simp] at h
    exact h⟩
  have HBX0 : Aside0 (((W.alloc (.cells #[.int .i64 a, .int .i64 b] 25)).alloc (.cells (madeCells #[.slice none 0 0] (a + 1)) 41)).heap[W.heap.size]? = some (.cells #[.int .i64 a, .int .i64 b] 25 (0, 0))) := ⟨blk_alloc (blk_new W _) _⟩
  have HBL0 : Aside0 (Below W.heap.size W ((W.alloc (.cells #[.int .i64 a, .int .i64 b] 25)).alloc (.cells (madeCells #[.slice none 0 0] (a + 1)) 41))) := ⟨((Below.refl _ _).alloc (Nat.le_refl _) _).alloc (by simp) _⟩
  obtain ⟨nb, hnb⟩ : ∃ nb, W.heap.size = nb := ⟨_, rfl⟩
  rw [hnb] at HT0 HBX0 HBL0 ⊢
  generalize (W.alloc (.cells #[.int .i64 a, .int .i64 b] 25)).alloc (.cells (madeCells #[.slice none 0 0] (a + 1)) 41) = W2 at HT0 HBX0 HBL0 ⊢
  have HNB := Aside0.mk hnb
  clear hnb
  go_loopg [6] (a + 1) (fun gg s6 wr => ∃ i : Nat, 1 ≤ i ∧ i ≤ a + 1 ∧ a + 1 - i ≤ gg ∧ s6 = .int .i64 i ∧ Aside0 (Tab (QC o b (nb + 1) wr.heap.size wr) 41 (a + 1) (fun _ => b + 1) i wr (nb + 1)) ∧ Aside0 (wr.heap[nb]? = some (.cells #[.int .i64 a, .int .i64 b] 25 (0, 0))) ∧ Aside0 (Below nb W wr))
  case atStart => exact ⟨1, by omega, by omega, by omega, rfl, HT0, HBX0, HBL0⟩
  case round =>
    clear HT0 HBX0 HBL0
    obtain ⟨i, hi1, hi2, hgg, rfl, HT, HBX, HBL⟩ := hrel
    have cb0 : wr.cell? ⟨nb, 0, none⟩ = some (.int .i64 a) := (blk_cell HBX.out 0).trans rfl
    have cb1 : wr.cell? ⟨nb, 1, none⟩ = some (.int .i64 b) := (blk_cell HBX.out 1).trans rfl
    by_cases hlt : i ≤ a
    · have hltz : (i : Int) ≤ (a : Int) := by omega
      go_wp2
      have HT2 : Aside0 (Tab (QC o b (nb + 1) wr.heap.size (wr.alloc (.cells (madeCells #[.int .i64 0] (b + 1)) 3))) 41 (a + 1) (fun _ => b + 1) i (wr.alloc (.cells (madeCells #[.int .i64 0] (b + 1)) 3)) (nb + 1)) := ⟨TabC.kept HT.out HT.out.lt (Nat.le_refl _) (World.grownBy_alloc _ _ none) (by simp)⟩
      have HR2 : Aside0 (Row 3 (b + 1) (fun j' => 1 ≤ j' ∧ j' < 1) (fun j' => .int .i64 (cnt o i j')) (wr.alloc (.cells (madeCells #[.int .i64 0] (b + 1)) 3)) wr.heap.size) := ⟨(Row.made wr (.int .i64 0) (b + 1) 3).imp (fun _ _ _ => trivial) (fun j _ h => by omega)⟩
      have HBX2 : Aside0 ((wr.alloc (.cells (madeCells #[.int .i64 0] (b + 1)) 3)).heap[nb]? = some (.cells #[.int .i64 a, .int .i64 b] 25 (0, 0))) := ⟨blk_alloc HBX.out _⟩
      have HBL2 : Aside0 (Below nb W (wr.alloc (.cells (madeCells #[.int .i64 0] (b + 1)) 3))) := ⟨HBL.out.alloc (by have := blk_lt HBX.out; omega) _⟩
      have HG : Aside0 (nb + 1 < wr.heap.size) := ⟨HT.out.lt⟩
      obtain ⟨g, hg⟩ : ∃ g, wr.heap.size = g := ⟨_, rfl⟩
      rw [hg] at HT2 HR2 HG ⊢
      generalize wr.alloc (.cells (madeCells #[.int .i64 0] (b + 1)) 3) = w2 at HT2 HR2 HBX2 HBL2 ⊢
      clear cb0 cb1 hg HT HBX HBL
      go_loopg [8] (b + 1) (fun gg s8 wx => ∃ j : Nat, 1 ≤ j ∧ j ≤ b + 1 ∧ b + 1 - j ≤ gg ∧ s8 = .int .i64 j ∧ Aside0 (Tab (QC o b (nb + 1) g wx) 41 (a + 1) (fun _ => b + 1) i wx (nb + 1)) ∧ Aside0 (Row 3 (b + 1) (fun j' => 1 ≤ j' ∧ j' < j) (fun j' => .int .i64 (cnt o i j')) wx g) ∧ Aside0 (wx.heap[nb]? = some (.cells #[.int .i64 a, .int .i64 b] 25 (0, 0))) ∧ Aside0 (Below nb W wx))
      case atStart => exact ⟨1, by omega, by omega, by omega, rfl, HT2, HR2, HBX2, HBL2⟩
      case round =>
        clear HT2 HR2 HBX2 HBL2
        obtain ⟨j, hj1, hj2, hgg2, rfl, HT, HR, HBX, HBL⟩ := hrel
        have cb1 : wr.cell? ⟨nb, 1, none⟩ = some (.int .i64 b) := (blk_cell HBX.out 1).trans rfl
        by_cases hltj : j ≤ b
        · have hltjz : (j : Int) ≤ (b : Int) := by omega
          have hp2 : i * j ≤ 144 := by
            have : i * j ≤ 12 * 12 := Nat.mul_le_mul (by omega) (by omega)
            omega
          have hpp : ((i * j : Nat) : Int) = (i : Int) * (j : Int) := Int.natCast_mul i j
          have hq0 : 0 ≤ (i : Int) * (j : Int) := by rw [← hpp]; omega
          have hq1 : (i : Int) * (j : Int) ≤ 144 := by rw [← hpp]; omega
          have HPP := Aside0.mk hpp
          clear hpp
          go_upto_if 35 with (fail)
          go_cut [9] from 26 to 101 (fun s9 wc => s9 = .int .i64 ((accN o i j 0 : Nat) : Int) ∧ wc = wr)
          case first =>
            by_cases h1 : i * j = 1
            · have hb1 : ((i : Int) * (j : Int) == 1) = true := by rw [← HPP.out, h1]; rfl
              have HA : Aside0 (accN o i j 0 = 1) := ⟨by unfold accN; rw [if_pos h1]⟩
              clear h1
              go_wp2
              go_meet
              case rel => exact ⟨by rw [HA.out]; rfl, rfl⟩
            · have hb1 : ((i : Int) * (j : Int) == 1) = false := by
                rw [← HPP.out]
                exact beq_eq_false_iff_ne.2 (by omega)
              have HA : Aside0 (accN o i j 0 = 0) := ⟨by unfold accN; rw [if_neg h1]; rfl⟩
              clear h1
              go_wp2
              go_meet
              case rel => exact ⟨by rw [HA.out]; rfl, rfl⟩
          case rest =>
            obtain ⟨rfl, rfl⟩ := hcut
            go_wp2
            go_loopg [9, 10] i (fun gg s9 s10 wy => ∃ t : Nat, 1 ≤ t ∧ t ≤ i ∧ i - t ≤ gg ∧ s10 = .int .i64 t ∧ s9 = .int .i64 ((accN o i j (t - 1) : Nat) : Int) ∧ Aside0 (wc.grownBy wy none))
            case atStart => exact ⟨1, by omega, by omega, by omega, rfl, rfl, ⟨World.grownBy.refl _ _⟩⟩
            case round =>
              obtain ⟨t, ht1, ht2, hgg3, rfl, rfl, HG3⟩ := hrel
              by_cases hltt : t < i
              · have hlttz : (t : Int) < (i : Int) := by omega
                obtain ⟨u, hu⟩ : ∃ u, i - t = u := ⟨_, rfl⟩
                obtain ⟨g1, c1, hq1⟩ := HT.out.at t ht1 hltt (by omega)
                obtain ⟨g2, c2, hq2⟩ := HT.out.at u (by omega) (by omega) (by omega)
                have d1 := hq1.2.cell j (by omega) hj1
                have d2 := hq2.2.cell j (by omega) hj1
                obtain ⟨kb, hkb⟩ := both_down o (i := i) (j := j) (t := t) (by omega) hj1 (by omega) ht1 hltt
                have hst := accN_step o (i := i) (j := j) (by intro h; have := Nat.eq_one_of_mul_eq_one_right h; omega) (cutsN_down (h := j) ht1 hltt)
                have hal := accN_le o i j (t - 1)
                have htl := cut_le (term o i j (true, t))
                unfold cap at hal htl
                rw [show t - 1 + 1 = t + 1 - 1 by omega] at hst
                rw [hu] at hkb
                obtain ⟨p1, hp1⟩ : ∃ p1, t * j = p1 := ⟨_, rfl⟩
                obtain ⟨p2, hp2e⟩ : ∃ p2, i * j = p2 := ⟨_, rfl⟩
                have hp1l : p1 ≤ 144 := by
                  rw [← hp1]
                  have : t * j ≤ i * j := Nat.mul_le_mul_right _ (by omega)
                  omega
                have hw1 : IntKind.i64.wrap ((t : Int) * (j : Int)) = (p1 : Int) := by rw [← Int.natCast_mul, hp1, IntKind.wrap_i64]; omega
                have hw3 : IntKind.i64.wrap ((i : Int) * (j : Int)) = (p2 : Int) := by rw [← Int.natCast_mul, hp2e, IntKind.wrap_i64]; omega
                have hp2l : p2 ≤ 144 := by omega
                rw [hp1, hp2e] at hkb
                obtain ⟨tm, htm⟩ : ∃ tm, cut (term o i j (true, t)) = tm := ⟨_, rfl⟩
                obtain ⟨ac, hac⟩ : ∃ ac, accN o i j (t - 1) = ac := ⟨_, rfl⟩
                rw [htm] at hkb hst htl
                rw [hac] at hst hal ⊢
                have hle := fun w => spec_l1Least.calls _ _ _ w (least_eq ((ac : Int) + (tm : Int)) 1000000000000001)
                rw [least_cut, hst] at hle
                have hbo := fun w => spec_brBoth.calls kb _ _ _ _ _ _ w hkb
                obtain ⟨z1, hz1⟩ : ∃ z1, cnt o t j = z1 := ⟨_, rfl⟩
                obtain ⟨z2, hz2⟩ : ∃ z2, cnt o u j = z2 := ⟨_, rfl⟩
                rw [hz1] at d1 hbo
                rw [hz2] at d2 hbo
                have hw0 : IntKind.i64.wrap ((i : Int) - (t : Int)) = (u : Int) := by rw [IntKind.wrap_i64]; omega
                have hw2 : IntKind.i64.wrap ((p1 : Int) - 1) = (p1 : Int) - 1 := by rw [IntKind.wrap_i64]; omega
                have hw4 : IntKind.i64.wrap ((p2 : Int) - 2) = (p2 : Int) - 2 := by rw [IntKind.wrap_i64]; omega
                have hw5 : IntKind.i64.wrap ((ac : Int) + (tm : Int)) = (ac : Int) + (tm : Int) := by rw [IntKind.wrap_i64]; omega
                have b1 : (t : Int) < (a : Int) + 1 := by omega
                have b2 : (u : Int) < (a : Int) + 1 := by omega
                have b3 : (j : Int) < (b : Int) + 1 := by omega
                have b4 : t < a + 1 := by omega
                have b5 : u < a + 1 := by omega
                have b6 : j < b + 1 := by omega
                have s0 : wr.drew.cell? ⟨nb + 1, t, none⟩ = some (.slice (some ⟨g1, 0, none⟩) (b + 1) (b + 1)) ∧ wr.drew.cell? ⟨nb + 1, u, none⟩ = some (.slice (some ⟨g2, 0, none⟩) (b + 1) (b + 1)) ∧ wr.drew.cell? ⟨g1, j, none⟩ = some (.int .i64 z1) ∧ wr.drew.cell? ⟨g2, j, none⟩ = some (.int .i64 z2) ∧ wc.grownBy wr.drew none :=
                  four_below (four_below ⟨c1, c2, d1, d2, World.grownBy.refl _ _⟩ HG3.out) (grown_drew wr)
                have HG3b := HG3
                have HU := Aside0.mk hu
                have HLT := Aside0.mk (And.intro ht1 hltt)
                clear hp1 hp2e htm hac hst hkb hz1 hz2 hu c1 c2 d1 d2 hq1 hq2 HG3 hal htl hp1l hp2l
                go_wp2
                go_region_held3 (fun w' => w'.cell? ⟨nb + 1, t, none⟩ = some (.slice (some ⟨g1, 0, none⟩) (b + 1) (b + 1)) ∧ w'.cell? ⟨nb + 1, u, none⟩ = some (.slice (some ⟨g2, 0, none⟩) (b + 1) (b + 1)) ∧ w'.cell? ⟨g1, j, none⟩ = some (.int .i64 z1) ∧ w'.cell? ⟨g2, j, none⟩ = some (.int .i64 z2) ∧ wc.grownBy w' none) (first | assumption | exact four_below (by assumption) (grown_drewN _ _))
                  (first
                    | (go_at_call 56; (with_reducible refine (hbo _).mono ?_); rintro e w6 ⟨rfl, hb6⟩; have s6 := four_below (by assumption) (grown_of_below hb6 none); clear hb6)
                    | (go_at_call 55; (with_reducible refine (hle _).mono ?_); rintro e w6 ⟨rfl, ⟨nd, rfl⟩⟩))
                have hend := four_last (w5 := wc) (by assumption)
                have HEND := Aside0.mk hend
                clear hend s0 s6 hbo hle hw0 hw1 hw2 hw3 hw4 hw5 b1 b2 b3 b4 b5 b6
                go_wp2
                go_roundg (i - (t + 1))
                case measure => have := HLT.out; omega
                case rel => exact ⟨t + 1, by omega, by have := HLT.out; omega, by omega, by go_num, rfl, HEND⟩
              · obtain rfl : t = i := by omega
                have hlttz : ¬ (t : Int) < (t : Int) := by omega
                go_wp2
                have HG4 := HG3
                clear HG3 ht1 ht2 hgg3
                go_loopg [9, 11] j (fun gg s9 s11 wy => ∃ t' : Nat, 1 ≤ t' ∧ t' ≤ j ∧ j - t' ≤ gg ∧ s11 = .int .i64 t' ∧ s9 = .int .i64 ((accN o t j (t - 1 + (t' - 1)) : Nat) : Int) ∧ Aside0 (wc.grownBy wy none))
                case atStart => exact ⟨1, by omega, by omega, by omega, rfl, rfl, HG4⟩
                case round =>
                  clear HG4
                  obtain ⟨t', ht1, ht2, hgg3, rfl, rfl, HG3⟩ := hrel
                  by_cases hltt : t' < j
                  · have hlttz : (t' : Int) < (j : Int) := by omega
                    obtain ⟨u, hu⟩ : ∃ u, j - t' = u := ⟨_, rfl⟩
                    have d1 := HR.out.cell t' (by omega) ⟨ht1, hltt⟩
                    have d2 := HR.out.cell u (by omega) ⟨by omega, by omega⟩
                    obtain ⟨kb, hkb⟩ := both_across o (i := t) (j := j) (t := t') (by omega) hi1 (by omega) ht1 hltt
                    have hst := accN_step o (i := t) (j := j) (by intro h; have := Nat.eq_one_of_mul_eq_one_left h; omega) (cutsN_across (w := t) ht1 hltt)
                    have hal := accN_le o t j (t - 1 + (t' - 1))
                    have htl := cut_le (term o t j (false, t'))
                    unfold cap at hal htl
                    rw [show t - 1 + (t' - 1) + 1 = t - 1 + (t' + 1 - 1) by omega] at hst
                    rw [hu] at hkb
                    obtain ⟨p1, hp1⟩ : ∃ p1, t' * t = p1 := ⟨_, rfl⟩
                    obtain ⟨p2, hp2e⟩ : ∃ p2, t * j = p2 := ⟨_, rfl⟩
                    have hp1l : p1 ≤ 144 := by
                      rw [← hp1]
                      have : t' * t ≤ j * t := Nat.mul_le_mul_right _ (by omega)
                      rw [Nat.mul_comm j t] at this
                      omega
                    have hw1 : IntKind.i64.wrap ((t' : Int) * (t : Int)) = (p1 : Int) := by rw [← Int.natCast_mul, hp1, IntKind.wrap_i64]; omega
                    have hw3 : IntKind.i64.wrap ((t : Int) * (j : Int)) = (p2 : Int) := by rw [← Int.natCast_mul, hp2e, IntKind.wrap_i64]; omega
                    have hp2l : p2 ≤ 144 := by omega
                    rw [hp1, hp2e] at hkb
                    obtain ⟨tm, htm⟩ : ∃ tm, cut (term o t j (false, t')) = tm := ⟨_, rfl⟩
                    obtain ⟨ac, hac⟩ : ∃ ac, accN o t j (t - 1 + (t' - 1)) = ac := ⟨_, rfl⟩
                    obtain ⟨an, han⟩ : ∃ an, accN o t j (t - 1 + (t' + 1 - 1)) = an := ⟨_, rfl⟩
                    rw [htm] at hkb hst htl
                    rw [hac] at hst hal ⊢
                    rw [han] at hst
                    have hle := fun w => spec_l1Least.calls _ _ _ w (least_eq ((ac : Int) + (tm : Int)) 1000000000000001)
                    rw [least_cut, hst] at hle
                    have hbo := fun w => spec_brBoth.calls kb _ _ _ _ _ _ w hkb
                    obtain ⟨z1, hz1⟩ : ∃ z1, cnt o t t' = z1 := ⟨_, rfl⟩
                    obtain ⟨z2, hz2⟩ : ∃ z2, cnt o t u = z2 := ⟨_, rfl⟩
                    rw [hz1] at d1 hbo
                    rw [hz2] at d2 hbo
                    have hw0 : IntKind.i64.wrap ((j : Int) - (t' : Int)) = (u : Int) := by rw [IntKind.wrap_i64]; omega
                    have hw2 : IntKind.i64.wrap ((p1 : Int) - 1) = (p1 : Int) - 1 := by rw [IntKind.wrap_i64]; omega
                    have hw4 : IntKind.i64.wrap ((p2 : Int) - 2) = (p2 : Int) - 2 := by rw [IntKind.wrap_i64]; omega
                    have hw5 : IntKind.i64.wrap ((ac : Int) + (tm : Int)) = (ac : Int) + (tm : Int) := by rw [IntKind.wrap_i64]; omega
                    have b1 : (t' : Int) < (b : Int) + 1 := by omega
                    have b2 : (u : Int) < (b : Int) + 1 := by omega
                    have b4 : t' < b + 1 := by omega
                    have b5 : u < b + 1 := by omega
                    have s0 : wr.drew.cell? ⟨g, t', none⟩ = some (.int .i64 z1) ∧ wr.drew.cell? ⟨g, u, none⟩ = some (.int .i64 z2) ∧ wc.grownBy wr.drew none :=
                      held2_below (held2_below ⟨d1, d2, World.grownBy.refl _ _⟩ HG3.out) (grown_drew wr)
                    have HU := Aside0.mk hu
                    have HLT := Aside0.mk (And.intro ht1 hltt)
                    have HAN := Aside0.mk han
                    clear hp1 hp2e htm hac han hst hkb hz1 hz2 hu d1 d2 HG3 hal htl hp1l hp2l
                    go_wp2
                    go_region_held3 (fun w' => w'.cell? ⟨g, t', none⟩ = some (.int .i64 z1) ∧ w'.cell? ⟨g, u, none⟩ = some (.int .i64 z2) ∧ wc.grownBy w' none) (first | assumption | exact held2_below (by assumption) (grown_drewN _ _))
                      (first
                        | (go_at_call 56; (with_reducible refine (hbo _).mono ?_); rintro e w6 ⟨rfl, hb6⟩; have s6 := held2_below (by assumption) (grown_of_below hb6 none); clear hb6)
                        | (go_at_call 55; (with_reducible refine (hle _).mono ?_); rintro e w6 ⟨rfl, ⟨nd, rfl⟩⟩))
                    have hend := held2_last (w5 := wc) (by assumption)
                    have HEND := Aside0.mk hend
                    clear hend s0 s6 hbo hle hw0 hw1 hw2 hw3 hw4 hw5 b1 b2 b4 b5
                    go_wp2
                    go_roundg (j - (t' + 1))
                    case measure => have := HLT.out; omega
                    case rel => exact ⟨t' + 1, by omega, by have := HLT.out; omega, by omega, by go_num, by rw [HAN.out], HEND⟩
                  · obtain rfl : t' = j := by omega
                    have hlttz : ¬ (t' : Int) < (t' : Int) := by omega
                    have hfull := accN_full o hi1 ht1
                    rw [hfull]
                    have HR4 := HR.out.new HG3.out
                    obtain ⟨xo, hxo⟩ := HR4.any t' (by omega)
                    have hfr := HR4.frozen t'
                    have HRR := Aside0.mk HR4
                    have b1 : (t' : Int) < (b : Int) + 1 := by omega
                    have b4 : t' < b + 1 := by omega
                    clear hfull HR4
                    go_wp2
                    have hgs : wc.grownBy (wr.setCell ⟨g, t', none⟩ (.int .i64 (cnt o t t'))) (some g) := World.grownBy.trans (grown_none HG3.out _) (set1_grown wr g t' _)
                    have HGS := Aside0.mk hgs
                    have HRP := Aside0.mk (HRR.out.put (q := fun j' => 1 ≤ j' ∧ j' < t' + 1) (u := fun j' => .int .i64 (cnt o t j')) t' (.int .i64 (cnt o t t')) (fun j' h1 h2 => by
                      by_cases he : j' = t'
                      · exact .inl ⟨he, by rw [he]⟩
                      · exact .inr ⟨he, ⟨h2.1, by omega⟩, rfl⟩))
                    generalize wr.setCell ⟨g, t', none⟩ (.int .i64 (cnt o t t')) = w7 at HGS HRP ⊢
                    clear hgs hxo hfr HG3 HRR
                    go_roundg (b + 1 - (t' + 1))
                    case measure => omega
                    case rel => exact ⟨t' + 1, by omega, by omega, by omega, by go_num, ⟨TabC.kept HT.out HG.out (Nat.le_refl _) HGS.out (fun r hr => by injection hr with hr; omega)⟩, HRP, ⟨blk_grown' HBX.out HGS.out (by have := HG.out; simp; omega)⟩, ⟨below_new HBL.out HGS.out (fun r hr => by injection hr with hr; have := HG.out; omega) (by rw [HNB.out]; exact Nat.le_refl _)⟩⟩
        · obtain rfl : j = b + 1 := by omega
          have hltjz : ¬ ((b + 1 : Nat) : Int) ≤ (b : Int) := by omega
          have b1 : (i : Int) < (a : Int) + 1 := by omega
          have b4 : i < a + 1 := by omega
          obtain ⟨xo, hxo⟩ := HT.out.any i (by omega)
          have hfr := HT.out.frozen i
          go_wp2
          have hgs := set1_grown wr (nb + 1) i (.slice (some ⟨g, 0, none⟩) (b + 1) (b + 1))
          have HGS := Aside0.mk hgs
          have HTP := Aside0.mk (HT.out.put (Q' := QC o b (nb + 1) (wr.setCell ⟨nb + 1, i, none⟩ (.slice (some ⟨g, 0, none⟩) (b + 1) (b + 1))).heap.size (wr.setCell ⟨nb + 1, i, none⟩ (.slice (some ⟨g, 0, none⟩) (b + 1) (b + 1)))) g (fun g' i' _ hq => hq.kept (Nat.le_trans (Nat.le_of_lt HR.out.lt) hgs.size) hgs (fun r hr => by injection hr with hr; omega))
            ⟨⟨HG.out, Nat.lt_of_lt_of_le HR.out.lt hgs.size⟩, (HR.out.imp (q := fun j => 1 ≤ j) (u := fun j => .int .i64 (cnt o i j)) (fun j h1 h2 => ⟨h2, by omega⟩) (fun _ _ _ => rfl)).set_far (by have := HG.out; omega)⟩)
          generalize wr.setCell ⟨nb + 1, i, none⟩ (.slice (some ⟨g, 0, none⟩) (b + 1) (b + 1)) = w8 at HGS HTP ⊢
          clear hgs hxo hfr
          go_roundg (a + 1 - (i + 1))
          case measure => omega
          case rel => exact ⟨i + 1, by omega, by omega, by omega, by go_num, HTP, ⟨blk_grown' HBX.out HGS.out (by simp)⟩, ⟨below_new HBL.out HGS.out (fun r hr => by injection hr with hr; omega) (by rw [HNB.out]; exact Nat.le_refl _)⟩⟩
    · obtain rfl : i = a + 1 := by omega
      have hltz : ¬ ((a + 1 : Nat) : Int) ≤ (a : Int) := by omega
      obtain ⟨g1, c1, hq1⟩ := HT.out.at a (by omega) (by omega) (by omega)
      have d1 := hq1.2.cell b (by omega) (by omega)
      have b1 : (a : Int) < (a : Int) + 1 := by omega
      have b2 : (b : Int) < (b : Int) + 1 := by omega
      clear hq1
      go_wp2
      go_quiet (fail)
      go_wp2
      go_ret
      exact ⟨rfl, by rw [HNB.out]; exact pw_below_drewN HBL.out _⟩

def spec_brCounts.f (a0_0 : Int) (a0_1 : Int) (a1 : Bool) : Option Int := if okB a0_0 a0_1 then some (cnt a1 a0_0 a0_1) else none
theorem spec_brCounts.calls (a0_0 : Int) (a0_1 : Int) (a1 : Bool) (r : Int) (w : World) (h : spec_brCounts.f a0_0 a0_1 a1 = some r) :
    Calls Try.prog 29 #[.agg #[.int .i64 a0_0, .int .i64 a0_1], .bool a1] w fun e w' => e = .returned (.int .i64 r) ∧ Below w.heap.size w w' := by
  unfold spec_brCounts.f at h
  by_cases hok : okB a0_0 a0_1
  · rw [if_pos hok] at h
    obtain rfl := Option.some.inj h
    obtain ⟨m, rfl⟩ := Int.eq_ofNat_of_zero_le (a := a0_0) (by have := hok.1; omega)
    obtain ⟨n, rfl⟩ := Int.eq_ofNat_of_zero_le (a := a0_1) (by have := hok.2; omega)
    exact brCounts_any m n hok a1 w
  · rw [if_neg hok] at h
    cases h
end Go.Proofs.Ytkoplphcdkmilaa.All
end
