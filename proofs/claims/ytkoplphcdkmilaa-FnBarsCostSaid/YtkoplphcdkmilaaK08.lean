/- Texts of this claim joined, in the order in which they build: GBar, PEv, PCount, PImpl. -/
import Derived.Maps.OwnSet
import Derived.MapViews
import Derived.DeepKeys5
import Derived.Lib.SmallJoins
import Derived.Laws.EntriesVeiled
import Derived.Test.YtkoplphcdkmilaaK07
section
namespace Go.Proofs.Ytkoplphcdkmilaa.GBar
open Go.RowKit Go.Proofs.YtkoplphcdkmilaaW.PrintWords Go.Proofs.YtkoplphcdkmilaaW.PrintLast Go.Proofs.YtkoplphcdkmilaaW.PrintMore Go.Maps Go.Joins
set_option linter.unusedVariables false
set_option linter.unusedSimpArgs false

theorem laidOut : laidOutB Try.prog = true := by kernel_rfl
theorem row25 : (25 : TypeId) < Try.prog.types.size := of_decide_eq_true (by kernel_rfl)
theorem wide25 : (match Try.prog.underlying 25 with | some (.array _ _) | some (.struct _) => true | _ => false) = true := by kernel_rfl
theorem law25 : Keyed Try.prog 25 := Keyed.of_law (deep_law_laid laidOut (m := 2) (by omega) row25 (by kernel_rfl) wide25)
def key (a b : Int) : Lit := .string (keyBytes [.int .i64 a, .int .i64 b])
theorem under3 : Try.prog.underlying 3 = some (.int .i64) := by kernel_rfl
theorem cells25 : Try.prog.cellsOf 25 = 2 := by kernel_rfl
theorem cells3 : Try.prog.cellsOf 3 = 1 := by kernel_rfl
theorem kt25 : Try.prog.keyType 25 = true := by kernel_rfl
def In64 (a : Int) : Prop := -9223372036854775808 ≤ a ∧ a ≤ 9223372036854775807
theorem key_of {a b : Int} (ha : In64 a) (hb : In64 b) : keyOf Try.prog 25 (.agg #[.int .i64 a, .int .i64 b]) = some (key a b) := by
  have wa : (Lit.int .i64 a).wf = true := WalkArith.wf_i64 ha
  have wb : (Lit.int .i64 b).wf = true := WalkArith.wf_i64 hb
  obtain ⟨m, hm⟩ : ∃ m, Try.prog.types.size + 1 = m + 2 := ⟨Try.prog.types.size - 1, by have : 1 ≤ Try.prog.types.size := of_decide_eq_true (by kernel_rfl); omega⟩
  have e1 : Try.prog.keyLits (m + 2) 25 [.int .i64 a, .int .i64 b] = some [.int .i64 a, .int .i64 b] := by
    simp [Program.keyLits, Try.underlying25, cells25, cells3, under3, wa, wb, List.range, List.range.loop]
  have e2 : (Value.agg #[.int .i64 a, .int .i64 b]).formed Try.prog 25 = true := by simp [Value.formed, Try.underlying25, cells25]
  unfold keyOf
  rw [Try.underlying25]
  simp only [kt25, hm, e2, Bool.and_self, if_true]
  rw [show (Value.agg #[.int .i64 a, .int .i64 b]).cells.toList = [.int .i64 a, .int .i64 b] from rfl, e1]
  rfl
theorem key_inj {a b a' b' : Int} (ha : In64 a) (hb : In64 b) (ha' : In64 a') (hb' : In64 b') (h : key a b = key a' b') : a = a' ∧ b = b' := by
  have := law25.inj (key_of ha hb) (by rw [h]; exact key_of ha' hb')
  simpa using this

def grid : List (Int × Int) := (List.range 12).flatMap (fun (i : Nat) => (List.range 12).map (fun (j : Nat) => ((i : Int) + 1, (j : Int) + 1)))
def okB (a b : Int) : Prop := (1 ≤ a ∧ a ≤ 12) ∧ (1 ≤ b ∧ b ≤ 12)
theorem okB.in1 {a b : Int} (h : okB a b) : In64 a := by obtain ⟨h1, h2⟩ := h; unfold In64; omega
theorem okB.in2 {a b : Int} (h : okB a b) : In64 b := by obtain ⟨h1, h2⟩ := h; unfold In64; omega
theorem okB.key {a b : Int} (h : okB a b) : keyOf Try.prog 25 (.agg #[.int .i64 a, .int .i64 b]) = some (key a b) := key_of h.in1 h.in2
theorem okB.inj {a b a' b' : Int} (h : okB a b) (h' : okB a' b') (e : GBar.key a b = GBar.key a' b') : a = a' ∧ b = b' := key_inj h.in1 h.in2 h'.in1 h'.in2 e
theorem mem_grid {a b : Int} (h : okB a b) : (a, b) ∈ grid := by
  obtain ⟨h1, h2⟩ := h
  unfold grid
  rw [List.mem_flatMap]
  refine ⟨(a - 1).toNat, List.mem_range.2 (by omega), List.mem_map.2 ⟨(b - 1).toNat, List.mem_range.2 (by omega), ?_⟩⟩
  rw [Prod.mk.injEq]
  omega
theorem count_less {κ : Type} (p q : κ → Bool) : ∀ (l : List κ), (∀ x ∈ l, q x = true → p x = true) → l.countP q ≤ l.countP p
  | [], _ => by simp
  | x :: r, h => by
    have ih := count_less p q r (fun y hy => h y (by simp [hy]))
    have := h x (by simp)
    rw [List.countP_cons, List.countP_cons]
    split <;> split <;> simp_all <;> omega
theorem count_drop {κ : Type} (p q : κ → Bool) : ∀ (l : List κ), (∀ x ∈ l, q x = true → p x = true) → (∃ x ∈ l, p x = true ∧ q x = false) → l.countP q + 1 ≤ l.countP p
  | [], _, h => by simp at h
  | x :: r, h, ⟨y, hy, hp, hq⟩ => by
    rw [List.countP_cons, List.countP_cons]
    rcases List.mem_cons.1 hy with rfl | hy
    · have := count_less p q r (fun z hz => h z (by simp [hz]))
      rw [if_pos hp, if_neg (by rw [hq]; simp)]
      omega
    · have ih := count_drop p q r (fun z hz => h z (by simp [hz])) ⟨y, hy, hp, hq⟩
      have := h x (by simp)
      split <;> split <;> simp_all <;> omega
def room (D : DataW Unit) : Nat := grid.countP (fun x => !Maps.has D (key x.1 x.2))
theorem room_le (D : DataW Unit) : room D ≤ 144 := by
  refine Nat.le_trans List.countP_le_length ?_
  decide +kernel
theorem room_put {D : DataW Unit} {a b : Int} {d : DataW Unit} (h : okB a b) (hm : Maps.IsMap D) (hh : Maps.has D (key a b) = false) (hk : WideAt.IsKeyLit (key a b)) : room (D.put (key a b) d) + 1 ≤ room D := by
  unfold room
  refine count_drop _ _ grid (fun x _ hx => ?_) ⟨(a, b), mem_grid h, by simp [hh], ?_⟩
  · simp only [Bool.not_eq_true'] at hx ⊢
    by_cases he : key x.1 x.2 = key a b
    · rw [he]; exact hh
    · rwa [has_put_other he] at hx
  · rw [has_put_same hm hk]
    rfl

variable {R : Value → Option (DataW Unit × List MemPlace)}
def Absent (R : Value → Option (DataW Unit × List MemPlace)) (W : World) (bm : Nat) (a b : Int) : Prop := ∃ n D, W.ownsMap Try.prog 25 R bm n D ∧ Maps.has D (key a b) = false
theorem Absent.kept {W W' : World} {bm : Nat} {a b : Int} {row : Option Nat} (h : Absent R W bm a b) (hg : W.grownBy W' row) (hne : some bm ≠ row) : Absent R W' bm a b := by
  obtain ⟨n, D, h1, h2⟩ := h
  exact ⟨n, D, h1.kept hg hne, h2⟩
theorem owns_one {W : World} {bm n n' : Nat} {D D' : DataW Unit} (h : W.ownsMap Try.prog 25 R bm n D) (h' : W.ownsMap Try.prog 25 R bm n' D') : D = D' := by
  obtain ⟨es, cl, h1, _, _, h2⟩ := h
  obtain ⟨es', cl', h1', _, _, h2'⟩ := h'
  rw [h1] at h1'
  injection h1' with h1'
  injection h1' with e1 e2
  rw [h2, h2', e1]

def Memo (R : Value → Option (DataW Unit × List MemPlace)) (z : DataW Unit) (Good : World → Int → Int → DataW Unit → Prop) (W : World) (bm : Nat) : Prop :=
  ∃ n D, W.ownsMap Try.prog 25 R bm n D ∧ n + room D ≤ 144 ∧ ∀ a b, okB a b → Maps.has D (key a b) = true → Good W a b (D.atKey (key a b) z)
theorem Memo.kept {z : DataW Unit} {Good : World → Int → Int → DataW Unit → Prop} {W W' : World} {bm : Nat} {row : Option Nat} (h : Memo R z Good W bm) (hg : W.grownBy W' row) (hne : some bm ≠ row)
    (hG : ∀ a b d, Good W a b d → Good W' a b d) : Memo R z Good W' bm := by
  obtain ⟨n, D, h1, h2, h3⟩ := h
  exact ⟨n, D, h1.kept hg hne, h2, fun a b ho hh => hG _ _ _ (h3 a b ho hh)⟩
theorem set1_grown (w : World) (N o : Nat) (x : Value) : w.grownBy (w.setCell ⟨N, o, none⟩ x) (some N) :=
  ⟨rfl, rfl, rfl, by simp [World.setCell], fun i _ hne => by rw [Below.heap_setCell _ _ _ _ (fun e => hne (by rw [e]))]⟩
theorem grown_far {W w w' : World} {bm N : Nat} (h : W.grownBy w (some bm)) (hg : w.grownBy w' (some N)) (hN : W.heap.size ≤ N) : W.grownBy w' (some bm) :=
  ⟨hg.os.trans h.os, hg.tape.trans h.tape, hg.output.trans h.output, Nat.le_trans h.size hg.size, fun i hi hne => (hg.block i (Nat.lt_of_lt_of_le hi h.size) (fun e => by injection e with e; omega)).trans (h.block i hi hne)⟩
theorem grown_none {W w : World} (h : W.grownBy w none) (r : Option Nat) : W.grownBy w r := ⟨h.os, h.tape, h.output, h.size, fun i hi _ => h.block i hi (by simp)⟩
theorem grown_drewN (w : World) (n : Nat) : w.grownBy (w.drewN n) none := ⟨rfl, rfl, rfl, Nat.le_refl _, fun _ _ _ => rfl⟩
theorem grown_drew (w : World) : w.grownBy w.drew none := ⟨rfl, rfl, rfl, Nat.le_refl _, fun _ _ _ => rfl⟩
theorem C_block {W : World} {g t : Nat} {cs : Array Value} (h : W.heap[g]? = some (.cells cs t (0, 0))) (xs : List Int) (hl : xs.length ≤ 9223372036854775807) (hc : ∀ i (hi : i < xs.length), cs[i]? = some (.int .i64 xs[i])) :
    Kd.C (Kd.int .i64) W (some ⟨g, 0, none⟩) xs.length xs := by
  refine ⟨rfl, hl, fun _ => ⟨_, rfl, fun j p hj => ?_⟩⟩
  obtain ⟨hlt, rfl⟩ := List.getElem?_eq_some_iff.1 hj
  refine ⟨[.int .i64 xs[j]], rfl, rfl, fun i u hu => ?_⟩
  cases i with
  | zero =>
    have : u = .int .i64 xs[j] := by simpa using hu.symm
    subst this
    have e : (⟨g, 0, none⟩ : Addr).add (j * (Kd.int .i64).sz + 0) = ⟨g, j, none⟩ := by
      rw [show (Kd.int .i64).sz = 1 from rfl, Nat.mul_one, Nat.add_zero]
      unfold Addr.add
      split
      · next h0 => subst h0; rfl
      · show Addr.mk g (0 + j) none = _
        rw [Nat.zero_add]
    rw [e]
    exact (blk_cell h j).trans (hc j hlt)
  | succ i => simp at hu
theorem cell_grown {W w : World} {row : Option Nat} {p : Addr} {v : Value} (h : W.cell? p = some v) (hg : W.grownBy w row) (hne : some p.block ≠ row) : w.cell? p = some v := by
  have hlt := World.block_lt_of_cell? W p h
  have hb := hg.block p.block hlt hne
  rw [← h]
  unfold World.cell?
  rw [hb]
theorem blk_grown' {W w : World} {row : Option Nat} {g : Nat} {o : Obj} (h : W.heap[g]? = some o) (hg : W.grownBy w row) (hne : some g ≠ row) : w.heap[g]? = some o := (hg.block g (blk_lt h) hne).trans h
theorem R_where {α : Type} {d : Kd α} {e base : Nat} {ok : Nat → Prop} {W : World} {v : Value} {xs : List α} (h : d.R e W base ok v xs) (hn : 0 < xs.length) : ∃ g c, v = .slice (some ⟨g, 0, none⟩) xs.length c ∧ base ≤ g ∧ g < W.heap.size ∧ d.C W (some ⟨g, 0, none⟩) xs.length xs := by
  obtain ⟨A, c, hv, hl, hC⟩ := Kd.R_reads h
  obtain ⟨h0, inner, ⟨hl2, hown⟩, hr⟩ := h
  rcases hown with ⟨e1, h1⟩ | ⟨g', cap', cur, e1, hb, hh, hnc, hcm, hsz, htk⟩
  · rw [e1] at hv
    injection hv with h2 h3 h4
    omega
  · rw [e1] at hv
    injection hv with h2 h3 h4
    subst h2
    subst h4
    exact ⟨g', cap', e1, hb, blk_lt hh, hC⟩
end Go.Proofs.Ytkoplphcdkmilaa.GBar
end
section
namespace Go.Proofs.Ytkoplphcdkmilaa.PEv
open Go.RowKit Go.Proofs.YtkoplphcdkmilaaW.PrintWords

theorem wrap_in {x : Int} (h0 : -9223372036854775808 ≤ x) (h1 : x ≤ 9223372036854775807) : wrap64 x = x := by unfold wrap64; omega
section
variable {α β : Type} {c : Prop} [Decidable c] {f g : Nat → Option α} {r : α}
theorem bound {f : Nat → β → Option α} {b : β} (h : Ev (fun k => f k b) r) : Ev (fun k => (some b : Option β).bind (f k)) r := Ev.congr (fun _ => Option.bind_some _ _) h
end
section
variable {α : Type}
end
end Go.Proofs.Ytkoplphcdkmilaa.PEv
end
section
namespace Go.Proofs.Ytkoplphcdkmilaa.PCount
set_option linter.unusedVariables false

def cap : Nat := 1000000000000001
def bin : Nat → Nat → Nat
  | _, 0 => 1
  | 0, _ + 1 => 0
  | n + 1, k + 1 => bin n k + bin n (k + 1)
theorem bin_zero (n : Nat) : bin n 0 = 1 := by cases n <;> rfl
theorem bin_pos : ∀ (n k : Nat), k ≤ n → 1 ≤ bin n k
  | n, 0, _ => by rw [bin_zero]; exact Nat.le_refl _
  | 0, k + 1, h => by omega
  | n + 1, k + 1, h => by
    have := bin_pos n k (by omega)
    show 1 ≤ bin n k + bin n (k + 1)
    omega
theorem bin_gt : ∀ (n k : Nat), n < k → bin n k = 0
  | _, 0, h => by omega
  | 0, k + 1, _ => rfl
  | n + 1, k + 1, h => by
    show bin n k + bin n (k + 1) = 0
    rw [bin_gt n k (by omega), bin_gt n (k + 1) (by omega)]
theorem bin_self : ∀ (n : Nat), bin n n = 1
  | 0 => rfl
  | n + 1 => by
    show bin n n + bin n (n + 1) = 1
    rw [bin_self n, bin_gt n (n + 1) (by omega)]

def cutsN (w h : Nat) : List (Bool × Nat) := (List.range (w - 1)).map (fun i => (true, i + 1)) ++ (List.range (h - 1)).map (fun i => (false, i + 1))
theorem mem_cutsN {w h : Nat} {c : Bool × Nat} : c ∈ cutsN w h ↔ 1 ≤ c.2 ∧ (if c.1 = true then c.2 < w else c.2 < h) := by
  obtain ⟨d, n⟩ := c
  unfold cutsN
  rw [List.mem_append, List.mem_map, List.mem_map]
  constructor
  · rintro (⟨i, hi, e⟩ | ⟨i, hi, e⟩)
    · rw [List.mem_range] at hi
      obtain ⟨rfl, rfl⟩ := Prod.mk.inj e
      simp; omega
    · rw [List.mem_range] at hi
      obtain ⟨rfl, rfl⟩ := Prod.mk.inj e
      simp; omega
  · cases d with
    | true =>
      simp only [if_true]
      intro h
      exact .inl ⟨n - 1, List.mem_range.2 (by omega), by rw [Prod.mk.injEq]; exact ⟨rfl, by omega⟩⟩
    | false =>
      simp only [Bool.false_eq_true, if_false]
      intro h
      exact .inr ⟨n - 1, List.mem_range.2 (by omega), by rw [Prod.mk.injEq]; exact ⟨rfl, by omega⟩⟩
def one (w h : Nat) (c : Bool × Nat) : Nat × Nat := if c.1 = true then (c.2, h) else (w, c.2)
def two (w h : Nat) (c : Bool × Nat) : Nat × Nat := if c.1 = true then (w - c.2, h) else (w, h - c.2)
def way (o : Bool) (n k : Nat) : Nat := if o = true then bin n k else 1
def NF (o : Bool) : Nat → Nat → Nat → Nat
  | 0, _, _ => 0
  | f + 1, w, h => if w * h = 1 then 1 else ((cutsN w h).map (fun c => NF o f (one w h c).1 (one w h c).2 * NF o f (two w h c).1 (two w h c).2 * way o (w * h - 2) ((one w h c).1 * (one w h c).2 - 1))).sum
def N (o : Bool) (w h : Nat) : Nat := NF o (w + h) w h
theorem parts {w h : Nat} {c : Bool × Nat} (hc : c ∈ cutsN w h) (hw : 1 ≤ w) (hh : 1 ≤ h) : (1 ≤ (one w h c).1 ∧ 1 ≤ (one w h c).2 ∧ 1 ≤ (two w h c).1 ∧ 1 ≤ (two w h c).2) ∧ (one w h c).1 + (one w h c).2 < w + h ∧ (two w h c).1 + (two w h c).2 < w + h ∧ (one w h c).1 ≤ w ∧ (one w h c).2 ≤ h ∧ (two w h c).1 ≤ w ∧ (two w h c).2 ≤ h ∧ (one w h c).1 * (one w h c).2 + (two w h c).1 * (two w h c).2 = w * h := by
  rw [mem_cutsN] at hc
  unfold one two
  obtain ⟨h1, h2⟩ := hc
  cases hd : c.1 with
  | true =>
    rw [hd] at h2
    simp only [if_true] at h2 ⊢
    refine ⟨by omega, by omega, by omega, by omega, by omega, by omega, by omega, ?_⟩
    rw [← Nat.add_mul, show c.2 + (w - c.2) = w by omega]
  | false =>
    rw [hd] at h2
    simp only [Bool.false_eq_true, if_false] at h2 ⊢
    refine ⟨by omega, by omega, by omega, by omega, by omega, by omega, by omega, ?_⟩
    rw [← Nat.mul_add, show c.2 + (h - c.2) = h by omega]
theorem map_congr_mem {α β : Type} {f g : α → β} : ∀ {l : List α}, (∀ x ∈ l, f x = g x) → l.map f = l.map g := fun h => List.map_congr_left h
theorem NF_eq (o : Bool) : ∀ (f g w h : Nat), 1 ≤ w → 1 ≤ h → w + h ≤ f → w + h ≤ g → NF o f w h = NF o g w h
  | 0, _, _, _, h1, h2, h3, _ => by omega
  | f + 1, 0, _, _, h1, h2, _, h3 => by omega
  | f + 1, g + 1, w, h, hw, hh, hf, hg => by
    unfold NF
    split
    · rfl
    · congr 1
      refine map_congr_mem fun c hc => ?_
      obtain ⟨⟨a1, a2, a3, a4⟩, a5, a6, _⟩ := parts hc hw hh
      rw [NF_eq o f g _ _ a1 a2 (by omega) (by omega), NF_eq o f g _ _ a3 a4 (by omega) (by omega)]
def term (o : Bool) (w h : Nat) (c : Bool × Nat) : Nat := N o (one w h c).1 (one w h c).2 * N o (two w h c).1 (two w h c).2 * way o (w * h - 2) ((one w h c).1 * (one w h c).2 - 1)
theorem N_one (o : Bool) {w h : Nat} (hp : w * h = 1) : N o w h = 1 := by
  have : w = 1 ∧ h = 1 := ⟨Nat.eq_one_of_mul_eq_one_right hp, Nat.eq_one_of_mul_eq_one_left hp⟩
  obtain ⟨rfl, rfl⟩ := this
  rfl
theorem N_rec (o : Bool) {w h : Nat} (hw : 1 ≤ w) (hh : 1 ≤ h) (hp : w * h ≠ 1) : N o w h = ((cutsN w h).map (term o w h)).sum := by
  obtain ⟨f, hf⟩ : ∃ f, w + h = f + 1 := ⟨w + h - 1, by omega⟩
  unfold N
  rw [hf]
  unfold NF
  rw [if_neg hp]
  congr 1
  refine map_congr_mem fun c hc => ?_
  obtain ⟨⟨a1, a2, a3, a4⟩, a5, a6, _⟩ := parts hc hw hh
  unfold term N
  rw [NF_eq o f _ _ _ a1 a2 (by omega) (Nat.le_refl _), NF_eq o f _ _ _ a3 a4 (by omega) (Nat.le_refl _)]
theorem cuts_some {w h : Nat} (hw : 1 ≤ w) (hh : 1 ≤ h) (hp : w * h ≠ 1) : ∃ c, c ∈ cutsN w h := by
  by_cases h1 : 1 < w
  · exact ⟨(true, 1), mem_cutsN.2 (by simp; omega)⟩
  · have : w = 1 := by omega
    subst this
    exact ⟨(false, 1), mem_cutsN.2 (by simp; omega)⟩
theorem sum_ge {l : List Nat} {x : Nat} : x ∈ l → x ≤ l.sum := by
  intro h
  induction l with
  | nil => simp at h
  | cons y r ih =>
    rw [List.sum_cons]
    rcases List.mem_cons.1 h with rfl | h
    · omega
    · have := ih h; omega
theorem one_le_mul {a b : Nat} (ha : 1 ≤ a) (hb : 1 ≤ b) : 1 ≤ a * b := Nat.mul_pos ha hb
theorem way_pos (o : Bool) {n k : Nat} (h : k ≤ n) : 1 ≤ way o n k := by
  unfold way
  split
  · exact bin_pos n k h
  · exact Nat.le_refl _
theorem left_le {w h : Nat} {c : Bool × Nat} (hc : c ∈ cutsN w h) (hw : 1 ≤ w) (hh : 1 ≤ h) : (one w h c).1 * (one w h c).2 - 1 ≤ w * h - 2 := by
  obtain ⟨⟨a1, a2, a3, a4⟩, _, _, _, _, _, _, a7⟩ := parts hc hw hh
  have := one_le_mul a3 a4
  omega
theorem N_pos (o : Bool) : ∀ (s w h : Nat), w + h ≤ s → 1 ≤ w → 1 ≤ h → 1 ≤ N o w h
  | 0, _, _, h0, hw, hh => by omega
  | s + 1, w, h, h0, hw, hh => by
    by_cases hp : w * h = 1
    · rw [N_one o hp]; exact Nat.le_refl _
    · rw [N_rec o hw hh hp]
      obtain ⟨c, hc⟩ := cuts_some hw hh hp
      have h1 := sum_ge (List.mem_map_of_mem (f := term o w h) hc)
      obtain ⟨⟨a1, a2, a3, a4⟩, a5, a6, _⟩ := parts hc hw hh
      have h2 := N_pos o s _ _ (by omega) a1 a2
      have h3 := N_pos o s _ _ (by omega) a3 a4
      have h4 : 1 ≤ term o w h c := one_le_mul (one_le_mul h2 h3) (way_pos o (left_le hc hw hh))
      omega
theorem sum_mono {α : Type} {f g : α → Nat} : ∀ {l : List α}, (∀ x ∈ l, f x ≤ g x) → (l.map f).sum ≤ (l.map g).sum
  | [], _ => Nat.le_refl _
  | x :: r, h => by
    simp only [List.map_cons, List.sum_cons]
    have := h x (by simp)
    have := sum_mono (l := r) (fun y hy => h y (by simp [hy]))
    omega
theorem trees_le : ∀ (s w h : Nat), w + h ≤ s → 1 ≤ w → 1 ≤ h → N false w h ≤ N true w h
  | 0, _, _, h0, hw, hh => by omega
  | s + 1, w, h, h0, hw, hh => by
    by_cases hp : w * h = 1
    · rw [N_one _ hp, N_one _ hp]; exact Nat.le_refl _
    · rw [N_rec _ hw hh hp, N_rec _ hw hh hp]
      refine sum_mono fun c hc => ?_
      obtain ⟨⟨a1, a2, a3, a4⟩, a5, a6, _⟩ := parts hc hw hh
      have h2 := trees_le s _ _ (by omega) a1 a2
      have h3 := trees_le s _ _ (by omega) a3 a4
      have h4 : 1 ≤ way true (w * h - 2) ((one w h c).1 * (one w h c).2 - 1) := way_pos true (left_le hc hw hh)
      unfold term
      rw [show way false (w * h - 2) ((one w h c).1 * (one w h c).2 - 1) = 1 from rfl]
      exact Nat.mul_le_mul (Nat.mul_le_mul h2 h3) h4

def cut (n : Nat) : Nat := min n cap
theorem cut_le (n : Nat) : cut n ≤ cap := Nat.min_le_right _ _
theorem cut_pos {n : Nat} (h : 1 ≤ n) : 1 ≤ cut n := by unfold cut cap; omega
theorem cut_add2 (a b : Nat) : cut (cut a + cut b) = cut (a + b) := by unfold cut; omega
theorem mul_ge {a b c : Nat} (h : c ≤ a) (hb : 1 ≤ b) : c ≤ a * b := Nat.le_trans h (Nat.le_mul_of_pos_right a hb)
theorem mul_ge' {a b c : Nat} (h : c ≤ b) (ha : 1 ≤ a) : c ≤ a * b := Nat.le_trans h (Nat.le_mul_of_pos_left b ha)
theorem cut_mul {a b : Nat} (ha : 1 ≤ a) (hb : 1 ≤ b) : cut (cut a * cut b) = cut (a * b) := by
  unfold cut
  by_cases h1 : a ≤ cap
  · by_cases h2 : b ≤ cap
    · rw [Nat.min_eq_left h1, Nat.min_eq_left h2]
    · have e1 := mul_ge' (a := a) (b := b) (c := cap) (by omega) ha
      have e2 := mul_ge' (a := a) (b := cap) (c := cap) (Nat.le_refl _) ha
      rw [Nat.min_eq_left h1, Nat.min_eq_right (by omega : cap ≤ b), Nat.min_eq_right e1, Nat.min_eq_right e2]
  · have hc : 1 ≤ min b cap := by unfold cap; omega
    have e1 := mul_ge (a := a) (b := b) (c := cap) (by omega) hb
    have e2 := mul_ge (a := cap) (b := min b cap) (c := cap) (Nat.le_refl _) hc
    rw [Nat.min_eq_right (by omega : cap ≤ a), Nat.min_eq_right e1, Nat.min_eq_right e2]
theorem cut_mul3 {a b c : Nat} (ha : 1 ≤ a) (hb : 1 ≤ b) (hc : 1 ≤ c) : cut (cut a * cut b * cut c) = cut (a * b * c) := by
  rw [← cut_mul (one_le_mul ha hb) hc, ← cut_mul ha hb]
  have h1 : 1 ≤ cut a * cut b := one_le_mul (cut_pos ha) (cut_pos hb)
  have h2 := cut_mul h1 (cut_pos hc)
  have e : cut (cut c) = cut c := by unfold cut; omega
  rw [e] at h2
  exact h2.symm
theorem cut_of_le {n : Nat} (h : n < cap) : cut n = n := by unfold cut; omega
theorem le_of_cut {n : Nat} (h : cut n < cap) : n < cap := by unfold cut at h; omega

theorem sum_append (a b : List Nat) : (a ++ b).sum = a.sum + b.sum := by
  induction a with
  | nil => simp
  | cons x r ih => rw [List.cons_append, List.sum_cons, List.sum_cons, ih]; omega
theorem turned : ∀ (s w h : Nat), w + h ≤ s → 1 ≤ w → 1 ≤ h → N false h w = N false w h
  | 0, _, _, h0, hw, hh => by omega
  | s + 1, w, h, h0, hw, hh => by
    by_cases hp : w * h = 1
    · rw [N_one _ hp, N_one _ (by rw [Nat.mul_comm]; exact hp)]
    · rw [N_rec _ hw hh hp, N_rec _ hh hw (by rw [Nat.mul_comm]; exact hp)]
      unfold cutsN
      rw [List.map_append, List.map_append, sum_append, sum_append, Nat.add_comm]
      simp only [List.map_map]
      congr 1
      · congr 1
        refine map_congr_mem fun i hi => ?_
        rw [List.mem_range] at hi
        simp only [Function.comp, term, one, two, way, if_true, Bool.false_eq_true, if_false, Nat.mul_one]
        rw [turned s _ _ (by omega) (by omega) hh, turned s _ _ (by omega) (by omega) hh]
      · congr 1
        refine map_congr_mem fun i hi => ?_
        rw [List.mem_range] at hi
        simp only [Function.comp, term, one, two, way, if_true, Bool.false_eq_true, if_false, Nat.mul_one]
        rw [turned s _ _ (by omega) hw (by omega), turned s _ _ (by omega) hw (by omega)]

def cnt (o : Bool) (a b : Int) : Int := ((cut (N o a.toNat b.toNat) : Nat) : Int)
theorem cnt_in (o : Bool) (a b : Int) (ha : 1 ≤ a) (hb : 1 ≤ b) : 1 ≤ cnt o a b ∧ cnt o a b ≤ 1000000000000001 := by
  unfold cnt
  have h1 := cut_pos (N_pos o (a.toNat + b.toNat) a.toNat b.toNat (Nat.le_refl _) (by omega) (by omega))
  have h2 := cut_le (N o a.toNat b.toNat)
  unfold cap at h2
  omega
theorem sum_take_succ (l : List Nat) (i : Nat) (h : i < l.length) : (l.take (i + 1)).sum = (l.take i).sum + l[i] := by
  rw [List.take_succ_eq_append_getElem h, sum_append]
  simp
end Go.Proofs.Ytkoplphcdkmilaa.PCount
end
section
namespace Go.Proofs.Ytkoplphcdkmilaa.PImpl
open Go.RowKit Go.Proofs.Ytkoplphcdkmilaa.All Go.Proofs.YtkoplphcdkmilaaW.PrintWords Go.Proofs.YtkoplphcdkmilaaW.PrintLast Go.Proofs.YtkoplphcdkmilaaW.PrintMore Go.Proofs.Ytkoplphcdkmilaa.PEv Go.Proofs.Ytkoplphcdkmilaa.PCount Go.Proofs.Ytkoplphcdkmilaa.GBar
set_option linter.unusedVariables false
set_option linter.unusedSimpArgs false

instance (a b : Int) : Decidable (okB a b) := by unfold okB; infer_instance
theorem within_eq (n lo hi : Int) : impl_within.f n lo hi = some (decide (lo ≤ n ∧ n ≤ hi)) := by
  unfold impl_within.f
  by_cases h : lo ≤ n
  · simp [h]
  · simp [h]
theorem isBar_eq (a b : Int) : impl_isBar.f a b = some (decide (okB a b)) := by
  unfold impl_isBar.f okB
  rw [within_eq, within_eq]
  by_cases h : (1 ≤ a ∧ a ≤ 12)
  · simp [h]
  · simp [h]
theorem l1In_eq (n lo hi : Int) : spec_l1In.f n lo hi = some (decide (lo ≤ n ∧ n ≤ hi)) := by
  unfold spec_l1In.f
  by_cases h : lo ≤ n
  · simp [h]
  · simp [h]
theorem brGood_eq (a b : Int) : spec_brGood.f a b = some (decide (okB a b)) := by
  unfold spec_brGood.f okB
  rw [l1In_eq, l1In_eq]
  by_cases h : (1 ≤ a ∧ a ≤ 12)
  · simp [h]
  · simp [h]
theorem least_eq (a b : Int) : spec_l1Least.f a b = some (min a b) := by
  unfold spec_l1Least.f
  split <;> (congr 1; omega)
theorem most_eq (a b : Int) : spec_l1Most.f a b = some (max a b) := by
  unfold spec_l1Most.f
  split <;> (congr 1; omega)
theorem prod_in {a b : Int} (h : okB a b) : 1 ≤ a * b ∧ a * b ≤ 144 := by
  obtain ⟨⟨h1, h2⟩, h3, h4⟩ := h
  have e1 : 1 * 1 ≤ a * b := Int.mul_le_mul h1 h3 (by omega) (by omega)
  have e2 : a * b ≤ 12 * 12 := Int.mul_le_mul h2 h4 (by omega) (by omega)
  omega
theorem squares_eq {a b : Int} (h : okB a b) : impl_Bar_squares.f a b = some (a * b) := by
  have := prod_in h
  unfold impl_Bar_squares.f
  rw [wrap_in (by omega) (by omega)]

def cutsZ (a b : Int) : List S65 := (cutsN a.toNat b.toNat).map (fun c => (⟨c.1, (c.2 : Int)⟩ : S65))
theorem range'_cons (m d : Nat) : (List.range' m (d + 1)) = m :: List.range' (m + 1) d := rfl
theorem cuts_l1 (a b : Int) (hb : b ≤ 12) : ∀ (d i : Nat) (acc : List S65), 1 ≤ i → i + d = max b.toNat i → acc.length + d ≤ 1000 → Ev (fun k => impl_Bar_cuts.l1 k acc (i : Int) a b) (acc ++ (List.range' i d).map (fun (n : Nat) => (⟨false, (n : Int)⟩ : S65))) := by
  intro d
  induction d with
  | zero =>
    intro i acc h1 h2 h3
    refine Ev.step (f := fun _ => some acc) (fun k => ?_) (by rw [List.range'_zero, List.map_nil, List.append_nil]; exact Ev.now _)
    simp only [impl_Bar_cuts.l1]
    rw [if_neg (by omega)]
  | succ d ih =>
    intro i acc h1 h2 h3
    have := ih (i + 1) (acc ++ [⟨false, (i : Int)⟩]) (by omega) (by omega) (by simp; omega)
    rw [List.append_assoc, List.singleton_append] at this
    refine Ev.step (f := fun k => impl_Bar_cuts.l1 k (acc ++ [⟨false, (i : Int)⟩]) ((i + 1 : Nat) : Int) a b) (fun k => ?_) (by rw [range'_cons, List.map_cons]; exact this)
    simp only [impl_Bar_cuts.l1]
    rw [if_pos (by omega), if_pos (by omega), wrap_in (by omega) (by omega)]
    rfl
theorem cuts_l0 (a b : Int) (ha : a ≤ 12) (hb : b ≤ 12) (r : List S65) : ∀ (d i : Nat) (acc : List S65), 1 ≤ i → i + d = max a.toNat i → acc.length + d ≤ 500 → Ev (fun k => impl_Bar_cuts.l1 k (acc ++ (List.range' i d).map (fun (n : Nat) => (⟨true, (n : Int)⟩ : S65))) 1 a b) r → Ev (fun k => impl_Bar_cuts.l0 k acc (i : Int) a b) r := by
  intro d
  induction d with
  | zero =>
    intro i acc h1 h2 h3 hr
    rw [List.range'_zero, List.map_nil, List.append_nil] at hr
    refine Ev.step (f := fun k => impl_Bar_cuts.l1 k acc 1 a b) (fun k => ?_) hr
    simp only [impl_Bar_cuts.l0]
    rw [if_neg (by omega)]
  | succ d ih =>
    intro i acc h1 h2 h3 hr
    rw [range'_cons, List.map_cons] at hr
    have := ih (i + 1) (acc ++ [⟨true, (i : Int)⟩]) (by omega) (by omega) (by simp; omega) (by rw [List.append_assoc, List.singleton_append]; exact hr)
    refine Ev.step (f := fun k => impl_Bar_cuts.l0 k (acc ++ [⟨true, (i : Int)⟩]) ((i + 1 : Nat) : Int) a b) (fun k => ?_) this
    simp only [impl_Bar_cuts.l0]
    rw [if_pos (by omega), if_pos (by omega), wrap_in (by omega) (by omega)]
    rfl
theorem range'_one (n : Nat) : List.range' 1 n = (List.range n).map (fun i => i + 1) := by
  apply List.ext_getElem
  · simp
  · intro i h1 h2
    simp
    omega
theorem cuts_ev {a b : Int} (h : okB a b) : ∃ k, impl_Bar_cuts.f k a b = some (cutsZ a b) := by
  obtain ⟨⟨h1, h2⟩, h3, h4⟩ := h
  have e2 := cuts_l1 a b h4 (b.toNat - 1) 1 ((List.range' 1 (a.toNat - 1)).map (fun (n : Nat) => (⟨true, (n : Int)⟩ : S65))) (by omega) (by omega) (by simp; omega)
  have e1 := cuts_l0 a b h2 h4 _ (a.toNat - 1) 1 [] (by omega) (by omega) (by simp; omega) (by rw [List.nil_append]; exact e2)
  have e3 : cutsZ a b = (List.range' 1 (a.toNat - 1)).map (fun (n : Nat) => (⟨true, (n : Int)⟩ : S65)) ++ (List.range' 1 (b.toNat - 1)).map (fun (n : Nat) => (⟨false, (n : Int)⟩ : S65)) := by
    unfold cutsZ cutsN
    rw [List.map_append, List.map_map, List.map_map, range'_one, range'_one, List.map_map, List.map_map]
    rfl
  rw [e3]
  exact e1.rounds
theorem cutsZ_length (a b : Int) : (cutsZ a b).length = (cutsN a.toNat b.toNat).length := by unfold cutsZ; rw [List.length_map]
theorem cutsN_length (w h : Nat) : (cutsN w h).length = (w - 1) + (h - 1) := by unfold cutsN; simp
theorem cutsZ_at {a b : Int} (h : okB a b) (i : Nat) (hi : i < (cutsN a.toNat b.toNat).length) :
    rd_T65 (cutsZ a b) (i : Int) = ⟨((cutsN a.toNat b.toNat)[i]).1, (((cutsN a.toNat b.toNat)[i]).2 : Int)⟩ := by
  unfold rd_T65 cutsZ
  rw [Int.toNat_natCast, List.getD_eq_getElem?_getD, List.getElem?_map, List.getElem?_eq_getElem hi]
  rfl
theorem broken_eq {a b : Int} (h : okB a b) {c : Bool × Nat} (hc : c ∈ cutsN a.toNat b.toNat) : impl_Bar_broken.f a b c.1 (c.2 : Int) = some (((one a.toNat b.toNat c).1 : Int), ((one a.toNat b.toNat c).2 : Int), ((two a.toNat b.toNat c).1 : Int), ((two a.toNat b.toNat c).2 : Int), true) := by
  obtain ⟨⟨h1, h2⟩, h3, h4⟩ := h
  rw [mem_cutsN] at hc
  obtain ⟨d, n⟩ := c
  unfold impl_Bar_broken.f one two
  cases d with
  | true =>
    simp only [if_true] at hc ⊢
    rw [wrap_in (x := a - 1) (by omega) (by omega), wrap_in (x := a - (n : Int)) (by omega) (by omega), within_eq]
    simp only [Option.bind_some]
    rw [decide_eq_true (by omega)]
    simp
    omega
  | false =>
    simp only [Bool.false_eq_true, if_false] at hc ⊢
    rw [wrap_in (x := b - 1) (by omega) (by omega), wrap_in (x := b - (n : Int)) (by omega) (by omega), within_eq]
    simp only [Option.bind_some]
    rw [decide_eq_true (by omega)]
    simp
    omega

def rowP (n m : Nat) : List Int := (List.range m).map (fun k => ((cut (bin n k) : Nat) : Int))
theorem rowP_length (n m : Nat) : (rowP n m).length = m := by unfold rowP; simp
theorem rowP_rd (n m : Nat) {i : Int} (h0 : 0 ≤ i) (h1 : i < m) : rd (rowP n m) i = ((cut (bin n i.toNat) : Nat) : Int) := by
  unfold rd rowP
  rw [List.getD_eq_getElem?_getD, List.getElem?_map, List.getElem?_range (by omega)]
  rfl
theorem rowP_snoc (n m : Nat) : rowP n (m + 1) = rowP n m ++ [((cut (bin n m) : Nat) : Int)] := by
  unfold rowP
  rw [List.range_succ, List.map_append]
  rfl
theorem mn_cut {x y : Nat} (hx : x ≤ cap) (hy : y ≤ cap) : mn (wrap64 ((x : Int) + (y : Int))) (wrap64 (1000000000000000 + 1)) = ((cut (x + y) : Nat) : Int) := by
  unfold cap at hx hy
  rw [wrap_in (by omega) (by omega), wrap_in (by omega) (by omega)]
  unfold mn cut cap
  split <;> omega
theorem choose_l1 (kk nn : Int) (n : Nat) (hn : n ≤ 1000) (r : Int) (t : Int) : ∀ (d i : Nat), 1 ≤ i → i + d = n + 1 → Ev (fun k => impl_choose.l0 k 1000000000000000 kk (rowP (n + 1) (n + 2)) nn (wrap64 (t + 1))) r → Ev (fun k => impl_choose.l1 k 1000000000000000 kk (rowP n (n + 1)) (rowP (n + 1) i) (i : Int) nn t) r := by
  intro d
  induction d with
  | zero =>
    intro i h1 h2 hr
    obtain rfl : i = n + 1 := by omega
    refine Ev.step (f := fun k => impl_choose.l0 k 1000000000000000 kk (rowP (n + 1) (n + 2)) nn (wrap64 (t + 1))) (fun k => ?_) hr
    simp only [impl_choose.l1]
    rw [if_neg (by rw [rowP_length]; omega), if_pos (by rw [rowP_length]; omega)]
    rw [rowP_snoc (n + 1) (n + 1), bin_self]
    rfl
  | succ d ih =>
    intro i h1 h2 hr
    have := ih (i + 1) (by omega) (by omega) hr
    refine Ev.step (f := fun k => impl_choose.l1 k 1000000000000000 kk (rowP n (n + 1)) (rowP (n + 1) (i + 1)) ((i + 1 : Nat) : Int) nn t) (fun k => ?_) this
    simp only [impl_choose.l1]
    rw [wrap_in (x := (i : Int) - 1) (by omega) (by omega), wrap_in (x := (i : Int) + 1) (by omega) (by omega)]
    rw [if_pos (by rw [rowP_length]; omega), if_pos (by omega), if_pos (by rw [rowP_length]; omega), if_pos (by omega), if_pos (by rw [rowP_length]; omega)]
    rw [rowP_rd n (n + 1) (by omega) (by omega), rowP_rd n (n + 1) (by omega) (by omega), mn_cut (cut_le _) (cut_le _), cut_add2, rowP_snoc (n + 1) i]
    obtain ⟨j, rfl⟩ : ∃ j, i = j + 1 := ⟨i - 1, by omega⟩
    rw [show (((j + 1 : Nat) : Int) - 1).toNat = j by omega, Int.toNat_natCast]
    rfl
theorem choose_l0 (kk : Int) (N k' : Nat) (hN : N ≤ 1000) (hk : kk = (k' : Int)) (hkN : k' ≤ N) : ∀ (d n : Nat), n + d = N → Ev (fun k => impl_choose.l0 k 1000000000000000 kk (rowP n (n + 1)) (N : Int) (n : Int)) ((cut (bin N k') : Nat) : Int) := by
  intro d
  induction d with
  | zero =>
    intro n h
    obtain rfl : n = N := by omega
    refine Ev.step (f := fun _ => some ((cut (bin n k') : Nat) : Int)) (fun k => ?_) (Ev.now _)
    simp only [impl_choose.l0]
    rw [if_neg (by omega), if_pos (by omega), if_pos (by rw [rowP_length]; omega), rowP_rd n (n + 1) (by omega) (by omega), hk, Int.toNat_natCast]
  | succ d ih =>
    intro n h
    have h1 := ih (n + 1) (by omega)
    refine Ev.step (f := fun k => impl_choose.l1 k 1000000000000000 kk (rowP n (n + 1)) (rowP (n + 1) 1) ((1 : Nat) : Int) (N : Int) (n : Int)) (fun k => ?_) (choose_l1 kk (N : Int) n (by omega) _ (n : Int) n 1 (by omega) (by omega) ?_)
    · simp only [impl_choose.l0]
      rw [if_pos (by omega)]
      rfl
    · rw [wrap_in (by omega) (by omega)]
      exact h1
theorem choose_ev (n k' : Nat) (hn : n ≤ 1000) (hk : k' ≤ n) : ∃ k, impl_choose.f k 1000000000000000 (n : Int) (k' : Int) = some ((cut (bin n k') : Nat) : Int) := (choose_l0 (k' : Int) n k' hn rfl hk n 0 (by omega)).rounds

theorem tdiv_nat (a b : Nat) : Int.tdiv (a : Int) (b : Int) = ((a / b : Nat) : Int) := Int.ofNat_tdiv a b
theorem over {o n : Nat} (hn : 1 ≤ n) (h : 1000000000000000 / n < o) : cap ≤ o * n := by
  have h1 := Nat.div_add_mod 1000000000000000 n
  have h2 := Nat.mod_lt 1000000000000000 hn
  have h3 : n * (1000000000000000 / n + 1) ≤ n * o := Nat.mul_le_mul_left _ h
  rw [Nat.mul_add, Nat.mul_one] at h3
  unfold cap
  rw [Nat.mul_comm o n]
  omega
theorem under {o n : Nat} (h : o ≤ 1000000000000000 / n) : o * n ≤ 1000000000000000 := by
  have h3 := Nat.mul_le_mul_right n h
  have := Nat.div_mul_le_self 1000000000000000 n
  omega
theorem product_step (xs : List Int) (i : Nat) (o n : Nat) (hi : i < xs.length) (hx : rd xs (i : Int) = (n : Int)) (hn : 1 ≤ n) (ho : o ≤ 1000000000000000) (hn2 : n ≤ cap) (hl : xs.length ≤ 1000) (r : Nat)
    (h1 : cap ≤ o * n → cut r = cap) (h2 : o * n ≤ 1000000000000000 → Ev (fun k => impl_product.l0 k 1000000000000000 ((o * n : Nat) : Int) xs (xs.length : Int) ((i + 1 : Nat) : Int)) ((cut r : Nat) : Int)) :
    Ev (fun k => impl_product.l0 k 1000000000000000 (o : Int) xs (xs.length : Int) (i : Int)) ((cut r : Nat) : Int) := by
  have hcap : n ≤ 1000000000000001 := hn2
  obtain ⟨q, hq⟩ : ∃ q, 1000000000000000 / n = q := ⟨_, rfl⟩
  have hdiv : q ≤ 1000000000000000 := by rw [← hq]; exact Nat.div_le_self _ _
  by_cases h : q < o
  · have e := over hn (by rw [hq]; exact h)
    refine Ev.step (f := fun _ => some ((cut r : Nat) : Int)) (fun k => ?_) (Ev.now _)
    simp only [impl_product.l0]
    rw [hx, if_pos (by omega), if_pos (by omega), if_pos (by omega), if_pos (by omega), if_neg (by omega), show (1000000000000000 : Int) = ((1000000000000000 : Nat) : Int) from rfl, tdiv_nat, hq, wrap_in (x := (q : Int)) (by omega) (by omega), if_pos (by omega), wrap_in (by omega) (by omega), h1 e]
    rfl
  · have e := under (o := o) (n := n) (by rw [hq]; omega)
    refine Ev.step (f := fun k => impl_product.l0 k 1000000000000000 ((o * n : Nat) : Int) xs (xs.length : Int) ((i + 1 : Nat) : Int)) (fun k => ?_) (h2 e)
    simp only [impl_product.l0]
    rw [hx, if_pos (by omega), if_pos (by omega), if_pos (by omega), if_pos (by omega), if_neg (by omega), show (1000000000000000 : Int) = ((1000000000000000 : Nat) : Int) from rfl, tdiv_nat, hq, wrap_in (x := (q : Int)) (by omega) (by omega), if_neg (by omega), ← Int.natCast_mul, wrap_in (by omega) (by omega), wrap_in (by omega) (by omega)]
    rfl
theorem cut_cap {n : Nat} (h : cap ≤ n) : cut n = cap := Nat.min_eq_right h
theorem product_ev (x y z : Nat) (hx : 1 ≤ x) (hy : 1 ≤ y) (hz : 1 ≤ z) (lx : x ≤ cap) (ly : y ≤ cap) (lz : z ≤ cap) : ∃ k, impl_product.f k 1000000000000000 [(x : Int), (y : Int), (z : Int)] = some ((cut (x * y * z) : Nat) : Int) := by
  have e3 : 1 * x * y * z = x * y * z := by rw [Nat.one_mul]
  have h : Ev (fun k => impl_product.l0 k 1000000000000000 ((1 : Nat) : Int) [(x : Int), (y : Int), (z : Int)] (([(x : Int), (y : Int), (z : Int)] : List Int).length : Int) ((0 : Nat) : Int)) ((cut (x * y * z) : Nat) : Int) := by
    refine product_step _ 0 1 x (by simp) rfl hx (by omega) lx (by simp) _ (fun h => ?_) (fun h1 => ?_)
    · rw [Nat.one_mul] at h
      exact cut_cap (mul_ge (mul_ge h hy) hz)
    · refine product_step _ 1 (1 * x) y (by simp) rfl hy h1 ly (by simp) _ (fun h => ?_) (fun h2 => ?_)
      · rw [Nat.one_mul] at h
        exact cut_cap (mul_ge h hz)
      · refine product_step _ 2 (1 * x * y) z (by simp) rfl hz h2 lz (by simp) _ (fun h => ?_) (fun h3 => ?_)
        · rw [e3] at h
          exact cut_cap h
        · refine Ev.step (f := fun _ => some ((1 * x * y * z : Nat) : Int)) (fun k => ?_) ?_
          · simp only [impl_product.l0]
            rw [if_neg (by simp)]
          · rw [e3] at h3 ⊢
            rw [cut_of_le (by unfold cap; omega)]
            exact Ev.now _
  exact h.rounds
end Go.Proofs.Ytkoplphcdkmilaa.PImpl
end
