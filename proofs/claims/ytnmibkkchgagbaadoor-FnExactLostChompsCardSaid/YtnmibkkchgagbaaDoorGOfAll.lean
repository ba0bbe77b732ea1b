/- The table of what is known of chomps as a state of the memory, and the contract of fates.of. Conditions: a chomp of at most six rows of one to six squares; a table that says only what is right. -/
import Derived.Test.YtnmibkkchgagbaaDoorPFateAll
import Derived.Test.YtnmibkkchgagbaaDoorPText
import Derived.Test.YtnmibkkchgagbaaDoorGBase
import Derived.Maps.OwnSet
import Derived.Maps.OwnOps
import Derived.MapViews
import Derived.StringKeys
import Derived.Test.YtnmibkkchgagbaaDoorGDelB
import Derived.Test.YtnmibkkchgagbaaDoorAx6
import Derived.Shelf.Abstract
import Derived.Lib.SmallJoins
import Derived.Laws.EntriesVeiled
import Derived.StillTailTactics
import Derived.BigQuiet
import Derived.RegionTactic
import Derived.BigRegion
import Derived.Deep.RegionHeld3
import Derived.Deep.CutRange
import Derived.Deep.DeepCutAuto
namespace Go.Proofs.YtnmibkkchgagbaaDoor.Memo
open Go.RowKit Go.Proofs.YtnmibkkchgagbaaDoor.All Go.Proofs.YtnmibkkchgagbaaDoorW.PrintWords Go.Proofs.YtnmibkkchgagbaaDoorW.PrintLast Go.Proofs.YtnmibkkchgagbaaDoorW.PrintMore Go.Proofs.YtnmibkkchgagbaaDoor.PChomp Go.Proofs.YtnmibkkchgagbaaDoor.PText Go.Proofs.YtnmibkkchgagbaaDoor.PFate Go.Maps
set_option linter.unusedVariables false
set_option linter.unusedSimpArgs false

/-! ### keys and elements -/
def none_ : ByteArray := ⟨#[]⟩
theorem join_none (xs : List (List UInt8)) : Lib.join xs [] = xs.flatten := by
  cases xs with
  | nil => rfl
  | cons x r =>
    rw [Lib.join_cons]
    simp [Lib.joinTail]
theorem txt_nil (l : List Int) : (txt l none_).data.toList = (l.map (fun n => dd n.toNat)).flatten := by
  rw [txt_data]
  exact join_none _
theorem size_data (b : ByteArray) : b.size = b.data.toList.length := by
  obtain ⟨a⟩ := b
  simp [ByteArray.size]
theorem txt_size (l : List Int) (h : l.length ≤ 6) : (txt l none_).size ≤ 100 := by
  rw [size_data, txt_data]
  have := join_len none_.data.toList l
  have h2 : none_.data.toList.length = 0 := rfl
  rw [h2] at this
  have : l.length * (0 + 2) ≤ 6 * 2 := Nat.mul_le_mul h (by omega)
  omega
def key (l : List Int) : Lit := .string (txt l none_).data.toList
theorem key_of {l : List Int} (hok : ok6 l) : keyOf Tryd.prog 9 (.string (txt l none_)) = some (key l) :=
  WideMaps.keyOf_string_mk Tryd.underlying9 (by have := txt_size l hok.1; unfold maxLen; omega)
theorem dd_one {n : Int} (h : 1 ≤ n ∧ n ≤ 6) : dd n.toNat = [UInt8.ofNat (48 + n.toNat)] := by
  unfold dd
  rw [if_pos (by omega)]
theorem flat_inj : ∀ (a b : List Int), (∀ n ∈ a, 1 ≤ n ∧ n ≤ 6) → (∀ n ∈ b, 1 ≤ n ∧ n ≤ 6) → (a.map (fun n => dd n.toNat)).flatten = (b.map (fun n => dd n.toNat)).flatten → a = b
  | [], [], _, _, _ => rfl
  | [], n :: r, _, hb, h => by
    rw [List.map_cons, List.flatten_cons, dd_one (hb n (by simp))] at h
    simp at h
  | n :: r, [], ha, _, h => by
    rw [List.map_cons, List.flatten_cons, dd_one (ha n (by simp))] at h
    simp at h
  | n :: r, m :: q, ha, hb, h => by
    have h1 := ha n (by simp)
    have h2 := hb m (by simp)
    rw [List.map_cons, List.flatten_cons, List.map_cons, List.flatten_cons, dd_one h1, dd_one h2] at h
    simp only [List.cons_append, List.nil_append, List.cons.injEq] at h
    have e1 : (UInt8.ofNat (48 + n.toNat)).toNat = (UInt8.ofNat (48 + m.toNat)).toNat := by rw [h.1]
    simp only [UInt8.toNat_ofNat'] at e1
    have e2 : n = m := by omega
    have e3 := flat_inj r q (fun x hx => ha x (by simp [hx])) (fun x hx => hb x (by simp [hx])) h.2
    rw [e2, e3]
theorem key_inj {a b : List Int} (ha : ok6 a) (hb : ok6 b) (h : key a = key b) : a = b := by
  unfold key at h
  rw [txt_nil, txt_nil] at h
  injection h with h
  exact flat_inj a b ha.2 hb.2 h
theorem law9 : Keyed Tryd.prog 9 := string_keyed Tryd.underlying9
theorem zero50 (w : World) : (zeroValue 50).run Tryd.prog w = .ok (.agg #[.int .i64 0, .int .i64 0]) w := by kernel_rfl
def pairElem (v : Value) : Option (DataW Unit × List MemPlace) := match v with
  | .agg cs => match cs.toList with
    | [.int .i64 a, .int .i64 b] => some (.agg [.lit (.int .i64 a), .lit (.int .i64 b)], [])
    | _ => none
  | _ => none
def pairD (b : Int × Int) : DataW Unit := .agg [.lit (.int .i64 b.1), .lit (.int .i64 b.2)]
theorem pairElem_inv {v : Value} {b : Int × Int} {ps : List MemPlace} (h : pairElem v = some (pairD b, ps)) : v = .agg #[.int .i64 b.1, .int .i64 b.2] := by
  unfold pairElem at h
  split at h
  · next cs =>
    split at h
    · next x y he =>
      simp [pairD] at h
      obtain ⟨⟨rfl, rfl⟩, _⟩ := h
      have : cs = #[.int .i64 b.1, .int .i64 b.2] := by
        apply Array.toList_inj.1
        rw [he]
      rw [this]
    · cases h
  · cases h
theorem pairElem_inv2 {v : Value} {d : DataW Unit} {ps : List MemPlace} (h : pairElem v = some (d, ps)) : ∃ b : Int × Int, v = .agg #[.int .i64 b.1, .int .i64 b.2] ∧ d = pairD b := by
  have h0 := h
  unfold pairElem at h
  split at h
  · next cs =>
    split at h
    · next x y he =>
      simp only [Option.some.injEq, Prod.mk.injEq] at h
      obtain ⟨rfl, rfl⟩ := h
      exact ⟨(x, y), pairElem_inv (b := (x, y)) h0, rfl⟩
    · cases h
  · cases h
theorem pairD_inj {a b : Int × Int} (h : pairD a = pairD b) : a = b := by
  unfold pairD at h
  injection h with h
  simp at h
  exact Prod.ext h.1 h.2
theorem lookup_pair {P : Program} (w : World) {ops : Array Oper} {rest : List Oper} {o : Oper} {a : Act} {Q : Exit → Act → World → Prop} (hg : o.guard = none) (m x : Operand) (t : TypeId) (hop : o.op = Op.lookup t m x true)
    (k e : TypeId) (K : Keyed P k) (ht : P.underlying t = some (.map k e)) (hz : (zeroValue e).run P w = .ok (.agg #[.int .i64 0, .int .i64 0]) w) (b n : Nat) (D : DataW Unit)
    (hm : a.eval m = .map (some b)) (hown : w.ownsMap P k pairElem b n D) (key : Value) (kl : Lit) (hx : a.eval x = key) (hkey : keyOf P k key = some kl)
    (hK : ∀ c : Int × Int, D.atKey kl (pairD (0, 0)) = pairD c → wpList P ops Q rest (a.put o.dst (.tuple #[.agg #[.int .i64 c.1, .int .i64 c.2], .bool (Maps.has D kl)])) w) :
    wpList P ops Q (o :: rest) a w :=
  wpList_lookup_own_ok w hg m x t hop k e K ht pairElem hz (pairD (0, 0)) [] rfl b n D hm hown key kl hx hkey (fun v ps hv => by
    obtain ⟨c, rfl, hc⟩ := pairElem_inv2 hv
    exact hK c hc)

/-! ### how much room is left -/
def grids : Nat → List (List Int)
  | 0 => [[]]
  | k + 1 => (grids k).flatMap (fun r => [1 :: r, 2 :: r, 3 :: r, 4 :: r, 5 :: r, 6 :: r])
theorem len6 (f : List Int → List (List Int)) (hf : ∀ r, (f r).length = 6) : ∀ G : List (List Int), (G.flatMap f).length = 6 * G.length
  | [] => rfl
  | r :: q => by rw [List.flatMap_cons, List.length_append, hf, len6 f hf q, List.length_cons]; omega
theorem grids_len : ∀ k, (grids k).length = 6 ^ k
  | 0 => rfl
  | k + 1 => by rw [grids, len6 _ (fun _ => rfl), grids_len k, Nat.pow_succ]; omega
theorem mem_grids : ∀ (l : List Int), (∀ n ∈ l, 1 ≤ n ∧ n ≤ 6) → l ∈ grids l.length
  | [], _ => by simp [grids]
  | n :: r, h => by
    rw [List.length_cons, grids, List.mem_flatMap]
    refine ⟨r, mem_grids r (fun m hm => h m (by simp [hm])), ?_⟩
    have := h n (by simp)
    obtain rfl | rfl | rfl | rfl | rfl | rfl : n = 1 ∨ n = 2 ∨ n = 3 ∨ n = 4 ∨ n = 5 ∨ n = 6 := by omega
    all_goals simp
def grid : List (List Int) := grids 0 ++ (grids 1 ++ (grids 2 ++ (grids 3 ++ (grids 4 ++ (grids 5 ++ grids 6)))))
theorem mem_grid {l : List Int} (h : ok6 l) : l ∈ grid := by
  have h1 := mem_grids l h.2
  have h2 := h.1
  unfold grid
  obtain e | e | e | e | e | e | e : l.length = 0 ∨ l.length = 1 ∨ l.length = 2 ∨ l.length = 3 ∨ l.length = 4 ∨ l.length = 5 ∨ l.length = 6 := by omega
  all_goals (rw [e] at h1; simp [h1])
theorem grid_len : grid.length ≤ 60000 := by
  unfold grid
  simp only [List.length_append, grids_len]
  decide
theorem count_less {κ : Type} (p q : κ → Bool) : ∀ (l : List κ), (∀ x ∈ l, q x = true → p x = true) → l.countP q ≤ l.countP p
  | [], _ => by simp
  | x :: r, h => by
    have ih := count_less p q r (fun y hy => h y (by simp [hy]))
    have := h x (by simp)
    rw [List.countP_cons, List.countP_cons]
    split <;> split <;> simp_all <;> omega
theorem count_drop {κ : Type} (p q : κ → Bool) : ∀ (l : List κ), (∀ x ∈ l, q x = true → p x = true) → (∃ x ∈ l, p x = true ∧ q x = false) → l.countP q + 1 ≤ l.countP p
  | [], _, h => by simp at h
  | x :: r, h, ⟨y, hy, hp, hq⟩ => by
    rw [List.countP_cons, List.countP_cons]
    rcases List.mem_cons.1 hy with rfl | hy
    · have := count_less p q r (fun z hz => h z (by simp [hz]))
      rw [if_pos hp, if_neg (by rw [hq]; simp)]
      omega
    · have ih := count_drop p q r (fun z hz => h z (by simp [hz])) ⟨y, hy, hp, hq⟩
      have := h x (by simp)
      split <;> split <;> simp_all <;> omega
def room (D : DataW Unit) : Nat := grid.countP (fun x => !Maps.has D (key x))
theorem room_le (D : DataW Unit) : room D ≤ 60000 := Nat.le_trans List.countP_le_length grid_len
theorem room_put {D : DataW Unit} {l : List Int} {d : DataW Unit} (hl : ok6 l) (hm : Maps.IsMap D) (hh : Maps.has D (key l) = false) (hk : WideAt.IsKeyLit (key l)) : room (D.put (key l) d) + 1 ≤ room D := by
  unfold room
  refine count_drop _ _ grid (fun x _ hx => ?_) ⟨l, mem_grid hl, by simp [hh], ?_⟩
  · simp only [Bool.not_eq_true'] at hx ⊢
    by_cases he : key x = key l
    · rw [he]; exact hh
    · rwa [has_put_other he] at hx
  · rw [has_put_same hm hk]
    rfl

/-! ### the table -/
/-- Block bm holds the table: whatever it holds is right. -/
def Memo (W : World) (bm : Nat) : Prop := ∃ n D, W.ownsMap Tryd.prog 9 pairElem bm n D ∧ n + room D ≤ 70000 ∧ ∀ l, ok6 l → Maps.has D (key l) = true → D.atKey (key l) (pairD (0, 0)) = pairD (fate l)
theorem Memo.kept {W W' : World} {bm : Nat} {row : Option Nat} (h : Memo W bm) (hg : W.grownBy W' row) (hne : some bm ≠ row) : Memo W' bm := by
  obtain ⟨n, D, h1, h2, h3⟩ := h
  exact ⟨n, D, h1.kept hg hne, h2, h3⟩
theorem Memo.lt {W : World} {bm : Nat} (h : Memo W bm) : bm < W.heap.size := by
  obtain ⟨n, D, h1, _⟩ := h
  exact h1.lt
theorem Memo.made (w : World) : Memo (w.alloc (.map #[] 0)) w.heap.size :=
  ⟨0, .map [], World.ownsMap_made w Tryd.prog 9 pairElem, by have := room_le (.map []); omega, fun l _ h => by cases h⟩
theorem Memo.map {W : World} {bm : Nat} (h : Memo W bm) : ∃ es cl, W.heap[bm]? = some (.map es cl) := by
  obtain ⟨n, D, ⟨es, cl, h1, _⟩, _⟩ := h
  exact ⟨es, cl, h1⟩
/-- The table in block bm lacks a key. -/
def Absent (W : World) (bm : Nat) (l : List Int) : Prop := ∃ n D, W.ownsMap Tryd.prog 9 pairElem bm n D ∧ Maps.has D (key l) = false
theorem Absent.kept {W W' : World} {bm : Nat} {l : List Int} {row : Option Nat} (h : Absent W bm l) (hg : W.grownBy W' row) (hne : some bm ≠ row) : Absent W' bm l := by
  obtain ⟨n, D, h1, h2⟩ := h
  exact ⟨n, D, h1.kept hg hne, h2⟩
theorem owns_one {W : World} {bm n n' : Nat} {D D' : DataW Unit} (h : W.ownsMap Tryd.prog 9 pairElem bm n D) (h' : W.ownsMap Tryd.prog 9 pairElem bm n' D') : D = D' := by
  obtain ⟨es, cl, h1, _, _, h2⟩ := h
  obtain ⟨es', cl', h1', _, _, h2'⟩ := h'
  rw [h1] at h1'
  injection h1' with h1'
  injection h1' with e1 e2
  rw [h2, h2', e1]
theorem set2_grown (w : World) (N : Nat) (x y : Value) : w.grownBy ((w.setCell ⟨N, 0, none⟩ x).setCell ⟨N, 1, none⟩ y) (some N) :=
  ⟨rfl, rfl, rfl, by simp [World.setCell], fun i _ hne => by rw [Below.heap_setCell _ _ _ _ (fun e => hne (by rw [e])), Below.heap_setCell _ _ _ _ (fun e => hne (by rw [e]))]⟩
theorem set1_grown (w : World) (N o : Nat) (x : Value) : w.grownBy (w.setCell ⟨N, o, none⟩ x) (some N) :=
  ⟨rfl, rfl, rfl, by simp [World.setCell], fun i _ hne => by rw [Below.heap_setCell _ _ _ _ (fun e => hne (by rw [e]))]⟩
theorem grown_far {W w w' : World} {bm N : Nat} (h : W.grownBy w (some bm)) (hg : w.grownBy w' (some N)) (hN : W.heap.size ≤ N) : W.grownBy w' (some bm) :=
  ⟨hg.os.trans h.os, hg.tape.trans h.tape, hg.output.trans h.output, Nat.le_trans h.size hg.size, fun i hi hne => (hg.block i (Nat.lt_of_lt_of_le hi h.size) (fun e => by injection e with e; omega)).trans (h.block i hi hne)⟩
theorem grown_drew (w : World) : w.grownBy w.drew none := ⟨rfl, rfl, rfl, Nat.le_refl _, fun _ _ _ => rfl⟩
theorem grown_drewN (w : World) (n : Nat) : w.grownBy (w.drewN n) none := ⟨rfl, rfl, rfl, Nat.le_refl _, fun _ _ _ => rfl⟩
/-- A row of numbers stands as it stood where its block is not written. -/
theorem C_keep {W W' : World} {A : Option Addr} {n : Nat} {xs : List Int} {row : Option Nat} (h : Kd.C (Kd.int .i64) W A n xs) (hg : W.grownBy W' row) (hne : ∀ (a : Addr) v, W.cell? a = some v → some a.block ≠ row) : Kd.C (Kd.int .i64) W' A n xs := by
  obtain ⟨h1, h2, h3⟩ := h
  refine ⟨h1, h2, fun hn => ?_⟩
  obtain ⟨ad, e, hc⟩ := h3 hn
  refine ⟨ad, e, fun j p hj => ?_⟩
  obtain ⟨c, hl, hp, hcell⟩ := hc j p hj
  exact ⟨c, hl, hp, fun i u hu => cell_grown hg (hcell i u hu) (hne _ u (hcell i u hu))⟩
theorem cell_map {W : World} {bm : Nat} {es : Array MapEntry} {cl : Nat} (h : W.heap[bm]? = some (.map es cl)) {a : Addr} {v : Value} (hc : W.cell? a = some v) : a.block ≠ bm := by
  rintro rfl
  unfold World.cell? at hc
  rw [h] at hc
  cases hc
end Go.Proofs.YtnmibkkchgagbaaDoor.Memo
namespace Go.Proofs.YtnmibkkchgagbaaDoor.Memo
open Go.RowKit Go.Proofs.YtnmibkkchgagbaaDoor.All Go.Proofs.YtnmibkkchgagbaaDoorW.PrintWords Go.Proofs.YtnmibkkchgagbaaDoorW.PrintLast Go.Proofs.YtnmibkkchgagbaaDoorW.PrintMore Go.Proofs.YtnmibkkchgagbaaDoor.PEv Go.Proofs.YtnmibkkchgagbaaDoor.PChomp Go.Proofs.YtnmibkkchgagbaaDoor.PText Go.Proofs.YtnmibkkchgagbaaDoor.PFate Go.Maps
set_option linter.unusedVariables false
set_option linter.unusedSimpArgs false

theorem text_ev {l : List Int} (h : ok6 l) : ∃ k, impl_chompText.f k l = some (txt l none_) := by
  apply Ev.rounds
  simp only [impl_chompText.f]
  exact Ev.bind (joined_ev l none_ (by have := h.1; omega) (by decide) (fun n hn => by have := h.2 n hn; omega)) (Ev.now _)
theorem bitten_eq {l m : List Int} (hok : ok6 l) (hm : m ∈ mv l) : impl_bitten.f l (rd m 0) (rd m 1) = some (nx l m) := by
  obtain ⟨a, y, rfl, hy, h0, h1, _⟩ := mv_mem hm
  exact impl_bite hok (Int.natCast_nonneg y)
structure St (W : World) (bm hm base top : Nat) (l : List Int) (v : Value) (i : Nat) (w : World) : Prop where
  memo : Memo w bm
  abs : Absent w bm l
  big : ∀ l', ok6 l' → sm l < sm l' → Absent W bm l' → Absent w bm l'
  seen : Seen.Holds w hm i (((mv l).take i).map (fun m => (fate (nx l m)).1)).reverse
  mvs : Kd.R (Kd.slice 3 (Kd.int .i64)) 22 w base (fun k => base ≤ k ∧ k < top) v (mv l)
  gr : W.grownBy w (some bm)
  res : w.heap[W.heap.size]? = some (.cells #[.int .i64 0, .int .i64 0] 50 (0, 0))
  tl : top ≤ w.heap.size
structure Ord (W : World) (bm hm base top : Nat) : Prop where
  a : bm < W.heap.size
  b : W.heap.size < hm
  c : hm < base
  d : base ≤ top
section
variable {W w w' : World} {bm hm base top i : Nat} {l : List Int} {v : Value}
theorem St.fresh (o : Ord W bm hm base top) (h : St W bm hm base top l v i w) {row : Option Nat} (hg : w.grownBy w' row) (hr : ∀ n, row = some n → top ≤ n) : St W bm hm base top l v i w' := by
  obtain ⟨o1, o2, o3, o4⟩ := o
  have nb : some bm ≠ row := fun e => by have := hr bm e.symm; omega
  refine ⟨h.memo.kept hg nb, h.abs.kept hg nb, fun l' a b c => (h.big l' a b c).kept hg nb, h.seen.kept hg (fun e => by have := hr hm e.symm; omega), Kd.R_grown h.mvs hg (fun k hk e => by have := hr k e.symm; omega), ?_, (hg.block _ (blk_lt h.res) (fun e => by have := hr _ e.symm; omega)).trans h.res, Nat.le_trans h.tl hg.size⟩
  exact ⟨hg.os.trans h.gr.os, hg.tape.trans h.gr.tape, hg.output.trans h.gr.output, Nat.le_trans h.gr.size hg.size, fun j hj hne => (hg.block j (Nat.lt_of_lt_of_le hj h.gr.size) (fun e => by have := hr j e.symm; omega)).trans (h.gr.block j hj hne)⟩
theorem St.below (o : Ord W bm hm base top) (h : St W bm hm base top l v i w) (hb : Below w.heap.size w w') : St W bm hm base top l v i w' := h.fresh o (grown_of_below hb none) (fun n e => by cases e)
theorem St.of (o : Ord W bm hm base top) (h : St W bm hm base top l v i w) (hg : w.grownBy w' (some bm)) (hm' : Memo w' bm) {q : List Int} (hok : ok6 l) (hq : sm q < sm l) (ha : ∀ l', ok6 l' → sm q < sm l' → Absent w bm l' → Absent w' bm l') : St W bm hm base top l v i w' := by
  obtain ⟨o1, o2, o3, o4⟩ := o
  exact ⟨hm', ha l hok hq h.abs, fun l' a b c => ha l' a (by omega) (h.big l' a b c), h.seen.kept hg (fun e => by injection e with e; omega), Kd.R_grown h.mvs hg (fun k hk e => by injection e with e; omega), World.grownBy.trans h.gr hg, (hg.block _ (blk_lt h.res) (fun e => by injection e with e; omega)).trans h.res, Nat.le_trans h.tl hg.size⟩
theorem St.store (o : Ord W bm hm base top) (h : St W bm hm base top l v i w) (hi : i < (mv l).length) {x : Int} (hx : x = (fate (nx l (mv l)[i])).1) (hg : w.grownBy w' (some hm)) (hs : Seen.Holds w' hm (i + 1) (x :: (((mv l).take i).map (fun m => (fate (nx l m)).1)).reverse)) : St W bm hm base top l v (i + 1) w' := by
  obtain ⟨o1, o2, o3, o4⟩ := o
  have nb : some bm ≠ some hm := fun e => by injection e with e; omega
  refine ⟨h.memo.kept hg nb, h.abs.kept hg nb, fun l' a b c => (h.big l' a b c).kept hg nb, ?_, Kd.R_grown h.mvs hg (fun k hk e => by injection e with e; omega), grown_far h.gr hg (by omega), (hg.block _ (blk_lt h.res) (fun e => by injection e with e; omega)).trans h.res, Nat.le_trans h.tl hg.size⟩
  rw [List.take_succ_eq_append_getElem hi, List.map_append, List.reverse_append]
  rw [hx] at hs
  exact hs
theorem St.row {A : Option Addr} {n : Nat} (hm : Memo W bm) (hr : Kd.C (Kd.int .i64) W A n l) (h : W.grownBy w (some bm)) : Kd.C (Kd.int .i64) w A n l := by
  obtain ⟨es, cl, hmap⟩ := hm.map
  exact C_keep hr h (fun a u hc e => cell_map hmap hc (by injection e))
end
end Go.Proofs.YtnmibkkchgagbaaDoor.Memo
namespace Go.Proofs.YtnmibkkchgagbaaDoor.Memo
open Go.RowKit Go.Proofs.YtnmibkkchgagbaaDoor.All Go.Proofs.YtnmibkkchgagbaaDoorW.PrintWords Go.Proofs.YtnmibkkchgagbaaDoorW.PrintLast Go.Proofs.YtnmibkkchgagbaaDoorW.PrintMore Go.Proofs.YtnmibkkchgagbaaDoor.PEv Go.Proofs.YtnmibkkchgagbaaDoor.PChomp Go.Proofs.YtnmibkkchgagbaaDoor.PText Go.Proofs.YtnmibkkchgagbaaDoor.PFate Go.Maps
set_option linter.unusedVariables false
section
variable {W w w' : World} {bm hm hm' base top i : Nat} {l : List Int} {v : Value} {a0 a1 : Addr} {x y : Value}
theorem Sx_below (o : Ord W bm hm base top) (h : w.cell? a0 = some x ∧ w.cell? a1 = some y ∧ St W bm hm base top l v i w) (hb : Below w.heap.size w w') : w'.cell? a0 = some x ∧ w'.cell? a1 = some y ∧ St W bm hm base top l v i w' :=
  ⟨(hb.cell (World.block_lt_of_cell? _ _ h.1)).trans h.1, (hb.cell (World.block_lt_of_cell? _ _ h.2.1)).trans h.2.1, h.2.2.below o hb⟩
theorem Sx_alloc (o : Ord W bm hm base top) (h : w.cell? a0 = some x ∧ w.cell? a1 = some y ∧ St W bm hm base top l v i w) (ob : Obj) : (w.alloc ob).cell? a0 = some x ∧ (w.alloc ob).cell? a1 = some y ∧ St W bm hm base top l v i (w.alloc ob) :=
  Sx_below o h (below_alloc (Below.refl _ _) ob)
theorem Sx_drew (o : Ord W bm hm base top) (h : w.cell? a0 = some x ∧ w.cell? a1 = some y ∧ St W bm hm base top l v i w) : w.drew.cell? a0 = some x ∧ w.drew.cell? a1 = some y ∧ St W bm hm base top l v i w.drew :=
  Sx_below o h (below_drew (Below.refl _ _))
theorem Sx_of (o : Ord W bm hm base top) (h : w.cell? a0 = some x ∧ w.cell? a1 = some y ∧ St W bm hm base top l v i w) (hg : w.grownBy w' (some bm)) (hmm : Memo w' bm) {q : List Int} (hok : ok6 l) (hq : sm q < sm l) (ha : ∀ l', ok6 l' → sm q < sm l' → Absent w bm l' → Absent w' bm l') : w'.cell? a0 = some x ∧ w'.cell? a1 = some y ∧ St W bm hm base top l v i w' := by
  obtain ⟨es, cl, hmap⟩ := h.2.2.memo.map
  exact ⟨cell_grown hg h.1 (fun e => cell_map hmap h.1 (by injection e)), cell_grown hg h.2.1 (fun e => cell_map hmap h.2.1 (by injection e)), h.2.2.of o hg hmm hok hq ha⟩
theorem Sx_row {A : Option Addr} {n : Nat} {r : List Int} (hm : Memo W bm) (hr : Kd.C (Kd.int .i64) W A n r) (h : w.cell? a0 = some x ∧ w.cell? a1 = some y ∧ St W bm hm' base top l v i w) : Kd.C (Kd.int .i64) w A n r := St.row hm hr h.2.2.gr
theorem Sx_memo (h : w.cell? a0 = some x ∧ w.cell? a1 = some y ∧ St W bm hm base top l v i w) : Memo w bm := h.2.2.memo
theorem Sx_store (o : Ord W bm hm base top) {B n : Nat} {u t : Value} (hB : a0.block < B ∧ a1.block < B ∧ top ≤ B) (hn : B ≤ n) (h : w.cell? a0 = some x ∧ w.cell? a1 = some y ∧ St W bm hm base top l v i w) : ((w.setCell ⟨n, 0, none⟩ u).setCell ⟨n, 1, none⟩ t).cell? a0 = some x ∧ ((w.setCell ⟨n, 0, none⟩ u).setCell ⟨n, 1, none⟩ t).cell? a1 = some y ∧ St W bm hm base top l v i ((w.setCell ⟨n, 0, none⟩ u).setCell ⟨n, 1, none⟩ t) := by
  have hg := set2_grown w n u t
  exact ⟨cell_grown hg h.1 (fun e => by injection e with e; omega), cell_grown hg h.2.1 (fun e => by injection e with e; omega), h.2.2.fresh o hg (fun k e => by injection e with e; omega)⟩
end
end Go.Proofs.YtnmibkkchgagbaaDoor.Memo
namespace Go.Proofs.YtnmibkkchgagbaaDoor.Memo
open Go.RowKit Go.Proofs.YtnmibkkchgagbaaDoor.All Go.Proofs.YtnmibkkchgagbaaDoorW.PrintWords Go.Proofs.YtnmibkkchgagbaaDoorW.PrintLast Go.Proofs.YtnmibkkchgagbaaDoorW.PrintMore Go.Proofs.YtnmibkkchgagbaaDoor.PEv Go.Proofs.YtnmibkkchgagbaaDoor.PChomp Go.Proofs.YtnmibkkchgagbaaDoor.PText Go.Proofs.YtnmibkkchgagbaaDoor.PFate Go.Maps Go.Shelf Go.Joins
attribute [local go_sem] max2_int min2_int
set_option linter.unusedVariables false
set_option linter.unusedSimpArgs false

theorem World.size_alloc_ (w : World) (o : Obj) : (w.alloc o).heap.size = w.heap.size + 1 := by simp
set_option maxHeartbeats 4000000 in
set_option maxRecDepth 100000 in
theorem of_any : ∀ (s : Nat) (l : List Int) (A : Option Addr) (c bm : Nat) (W : World), ok6 l → sm l < s → l.length ≤ c → Kd.C (Kd.int .i64) W A l.length l → Memo W bm →
    Calls Tryd.prog 45 #[.map (some bm), .slice A l.length c] W fun e w' => e = .returned (.agg #[.int .i64 (fate l).1, .int .i64 (fate l).2]) ∧ Memo w' bm ∧ W.grownBy w' (some bm) ∧ (∀ l', ok6 l' → sm l < sm l' → Absent W bm l' → Absent w' bm l') := by
  intro s
  induction s with
  | zero => intro l A c bm W hok hs; have := (sm_36 hok).1; omega
  | succ s ih =>
    intro l A c bm W hok hs hc hr hm
    have hu50 := Tryd.underlying50
    obtain ⟨n, D, hown, hroom, hmem⟩ := hm
    have HM0 : Aside0 (Memo W bm) := ⟨⟨n, D, hown, hroom, hmem⟩⟩
    have HMEM := Aside0.mk hmem
    have HROOM := Aside0.mk hroom
    have hkey := key_of hok
    have HOWN := Aside0.mk hown
    have HOK := Aside0.mk hok
    have HR := Aside0.mk hr
    have HC := Aside0.mk hc
    have HS := Aside0.mk hs
    obtain ⟨kt, hkt⟩ := text_ev hok
    have HKT := Aside0.mk hkt
    have hbm := hown.lt
    clear hown hmem hroom hok hr hs hkt
    cases hh : Maps.has D (key l) with
    | true =>
      have HH := Aside0.mk hh
      clear hh ih
      go_enter Tryd.func45, Tryd.ntmps45
      go_wp2_with (first
        | (go_at_call 36; refine (impl_chompText.calls kt A c l _ _ (Kd.C_alloc HR.out _) HC.out HKT.out).mono ?_; rintro e w2 ⟨rfl, hb2⟩; have HB2 := Aside0.mk hb2; have hn4 := blk_below (blk_new W (.cells #[.int .i64 0, .int .i64 0] 50)) hb2; have e4a : w2.cell? ⟨W.heap.size, 0, none⟩ = some (.int .i64 0) := (blk_cell hn4 0).trans rfl; have e4b : w2.cell? ⟨W.heap.size, 1, none⟩ = some (.int .i64 0) := (blk_cell hn4 1).trans rfl; have f4a := blk_frozen hn4 0; have f4b := blk_frozen hn4 1; have HN4 := Aside0.mk hn4; have hz2 : W.heap.size < w2.heap.size := blk_lt hn4; clear hb2 hn4)
        | (at_lookup; refine lookup_pair _ rfl _ _ 52 rfl 9 50 law9 Tryd.underlying52 (zero50 _) bm n D rfl ((HOWN.out.alloc _).kept (grown_of_below HB2.out none) (by simp)) _ _ rfl hkey ?_; intro cc hat; rw [HH.out]; have HAT := Aside0.mk hat; clear hat))
      refine bodyPost_ret (results_cell_row rfl _ _ W.heap.size 50 #[.int .i64 cc.1, .int .i64 cc.2] (0, 0) _ rfl (by refine blk_alloc (blk_put (cs := #[.int .i64 cc.1, .int .i64 0]) ?_ 1 _ rfl) _; exact blk_put (cs := #[.int .i64 0, .int .i64 0]) HN4.out 0 _ rfl) Tryd.underlying50 rfl (by kernel_rfl)) rfl ?_
      have hs2 := set2_grown w2 W.heap.size (.int .i64 cc.1) (.int .i64 cc.2)
      have hg1 : W.grownBy w2 none := World.grownBy.trans (World.grownBy_alloc _ _ _) (grown_of_below HB2.out none)
      have hg3 : W.grownBy ((w2.setCell ⟨W.heap.size, 0, none⟩ (.int .i64 cc.1)).setCell ⟨W.heap.size, 1, none⟩ (.int .i64 cc.2)) none :=
        ⟨hs2.os.trans hg1.os, hs2.tape.trans hg1.tape, hs2.output.trans hg1.output, Nat.le_trans hg1.size hs2.size, fun j hj _ => (hs2.block j (Nat.lt_of_lt_of_le hj hg1.size) (fun e => by injection e with e; omega)).trans (hg1.block j hj (by simp))⟩
      have hg2 := World.grownBy.trans hg3 (World.grownBy_alloc _ (.cells #[.int .i64 cc.1, .int .i64 cc.2] 50) none)
      refine ⟨?_, HM0.out.kept hg2 (by simp), ⟨hg2.os, hg2.tape, hg2.output, hg2.size, fun j hj _ => hg2.block j hj (by simp)⟩, fun _ _ _ ha => ha.kept hg2 (by simp)⟩
      have e2 := HMEM.out l HOK.out HH.out
      rw [HAT.out] at e2
      rw [pairD_inj e2]
    | false =>
      have HH := Aside0.mk hh
      have IH := Aside0.mk ih
      obtain ⟨kb, hkb⟩ := (bites_ev HOK.out).rounds
      have HKB := Aside0.mk hkb
      have hmm := @run_makeMap Tryd.prog
      clear hh ih hkb
      go_enter Tryd.func45, Tryd.ntmps45
      go_wp2_with (first
        | (go_at_call 36; refine (impl_chompText.calls kt A c l _ _ (Kd.C_alloc HR.out _) HC.out HKT.out).mono ?_; rintro e w2 ⟨rfl, hb2⟩; have HB2 := Aside0.mk hb2; have HN4 := Aside0.mk (blk_below (blk_new W (.cells #[.int .i64 0, .int .i64 0] 50)) hb2); have hz2 : W.heap.size < w2.heap.size := blk_lt HN4.out; clear hb2)
        | (at_lookup; refine lookup_pair _ rfl _ _ 52 rfl 9 50 law9 Tryd.underlying52 (zero50 _) bm n D rfl ((HOWN.out.alloc _).kept (grown_of_below HB2.out none) (by simp)) _ _ rfl hkey ?_; intro cc hat; rw [HH.out]; clear hat)
        | (go_at_call 65; refine (impl_bites.calls kb A c l _ _ (Kd.C_alloc (Kd.C_alloc (Kd.C_below (Kd.C_alloc HR.out _) HB2.out) _) _) HC.out HKB.out).mono ?_; rintro e w5 ⟨v27, rfl, hs5, hb5⟩; obtain ⟨A27, c27, rfl, hc27, _⟩ := Kd.R_reads (Kd.S_R hs5); have HS5 := Aside0.mk (Kd.S_R hs5); have HB5 := Aside0.mk hb5; clear hs5 hb5))
      have gW5 : W.grownBy w5 none := World.grownBy.trans (World.grownBy_alloc _ _ _) (World.grownBy.trans (grown_of_below HB2.out none) (World.grownBy.trans (World.grownBy_alloc _ _ _) (World.grownBy.trans (World.grownBy_alloc _ _ _) (grown_of_below HB5.out none))))
      have HST : Aside0 (St W bm (w2.heap.size + 1) (w2.heap.size + 2) w5.heap.size l (.slice A27 (mv l).length c27) 0 w5) := ⟨by
        have hh4 := blk_below (blk_alloc (blk_alloc HN4.out (.cells #[.int .i64 cc.1, .int .i64 cc.2] 50)) (.map #[] 0)) HB5.out
        have hs5 := (Seen.Holds.made (w2.alloc (.cells #[.int .i64 cc.1, .int .i64 cc.2] 50))).kept (grown_of_below HB5.out none) (by simp)
        have hm5 := Kd.R_mono (ok' := fun k => w2.heap.size + 2 ≤ k ∧ k < w5.heap.size) (Kd.R_bound HS5.out) (fun k hk => ⟨by have := hk.2.1; simpa using this, hk.2.2.1⟩)
        rw [World.size_alloc_] at hs5
        exact ⟨HM0.out.kept gW5 (by simp), ⟨n, D, HOWN.out.kept gW5 (by simp), HH.out⟩, fun _ _ _ ha => ha.kept gW5 (by simp), hs5, by simpa using hm5, ⟨gW5.os, gW5.tape, gW5.output, gW5.size, fun j hj _ => gW5.block j hj (by simp)⟩, hh4, Nat.le_refl _⟩⟩
      have HO : Aside0 (Ord W bm (w2.heap.size + 1) (w2.heap.size + 2) w5.heap.size) := ⟨⟨hbm, by omega, by omega, by have := HB5.out.size; simpa using this⟩⟩
      obtain ⟨P, hP⟩ : ∃ P, w2.heap.size = P := ⟨_, rfl⟩
      rw [hP] at HST HO ⊢
      clear gW5 HB5 HN4 HS5 HROOM HMEM HOWN HH hz2 HB2 hP HKB HKT
      obtain ⟨top, htop⟩ : ∃ P, w5.heap.size = P := ⟨_, rfl⟩
      rw [htop] at HST HO
      clear htop
      obtain ⟨FS, hFS⟩ : ∃ FS, (mv l).map (fun m => fate (nx l m)) = FS := ⟨_, rfl⟩
      have hFl : FS.length = (mv l).length := by rw [← hFS, List.length_map]
      have HFL := Aside0.mk hFl
      have HFS := Aside0.mk hFS
      have hml := mv_len HOK.out
      clear hFl hFS
      go_loopg [9, 10, 29] (mv l).length (fun gg s9 s10 s29 wr => ∃ i : Nat, i ≤ (mv l).length ∧ (mv l).length - i ≤ gg ∧ s9 = .int .i64 ((FS.take i).foldl lgs 0) ∧ s10 = .int .i64 ((FS.take i).foldl qks (-1)) ∧ s29 = .int .i64 i ∧ Aside0 (St W bm (P + 1) (P + 2) top l (.slice A27 (mv l).length c27) i wr))
      case atStart => exact ⟨0, Nat.zero_le _, by omega, rfl, rfl, rfl, HST⟩
      case round =>
        clear HST
        obtain ⟨i, hi, hgg, rfl, rfl, rfl, HST⟩ := hrel
        by_cases hlt : i < (mv l).length
        · have hltz : (i : Int) < ((mv l).length : Int) := by omega
          have p0 : (0 : Int) ≤ (i : Int) := Int.natCast_nonneg i
          have hmem : (mv l)[i] ∈ mv l := List.getElem_mem hlt
          have hnx := nx_ok HOK.out hmem
          have hbt := bitten_eq HOK.out hmem
          obtain ⟨ad, A', c', e, hx0, hl', hC'⟩ := at_L2 (Kd.R_reads' HST.out.mvs).2.2 (i : Int) p0 hltz
          cases e
          have em : rd_L2 (mv l) (i : Int) = (mv l)[i] := by simp [rd_L2, List.getD_eq_getElem?_getD, hlt]
          rw [em] at hx0 hl' hC'
          have hm2 : (mv l)[i].length = 2 := by obtain ⟨a, y, e, _⟩ := mv_mem hmem; rw [e]; rfl
          obtain ⟨m, hm'⟩ : ∃ m, (mv l)[i] = m := ⟨_, rfl⟩
          rw [hm'] at hx0 hl' hC' hmem hnx hbt hm2
          have HMI := Aside0.mk hm'
          clear hm' em
          rw [hm2] at hx0 hl' hC'
          obtain ⟨ad2, e2, hy0⟩ := Kd.at_int hC' 0 (by omega) (by omega)
          cases e2
          obtain ⟨ad3, e3, hy1⟩ := Kd.at_int hC' 1 (by omega) (by omega)
          cases e3
          obtain ⟨x, hx⟩ : ∃ x, rd m 0 = x := ⟨_, rfl⟩
          obtain ⟨y, hy⟩ : ∃ y, rd m 1 = y := ⟨_, rfl⟩
          rw [hx] at hy0 hbt
          rw [hy] at hy1 hbt
          clear hx hy
          have HNX := Aside0.mk hnx
          have HBT := Aside0.mk hbt
          have HME := Aside0.mk hmem
          simp only [Int.toNat_natCast] at hx0
          clear hnx hbt hC' hm2 hl' hmem
          go_wp2
          replace hy0 : wr.cell? ad2 = some (.int .i64 x) := hy0
          replace hy1 : wr.cell? ⟨ad2.block, ad2.off + 1, none⟩ = some (.int .i64 y) := hy1
          have hb0 := World.block_lt_of_cell? _ _ hy0
          have hb1 := World.block_lt_of_cell? _ _ hy1
          have HB01 : Aside0 (ad2.block < wr.heap.size ∧ ad2.block < wr.heap.size ∧ top ≤ wr.heap.size) := ⟨⟨hb0, hb1, HST.out.tl⟩⟩
          have s0 := Sx_drew HO.out (And.intro hy0 (And.intro hy1 HST.out))
          have hw0 : wr.drew.heap.size = wr.heap.size := rfl
          obtain ⟨q, hq⟩ : ∃ q, fate (nx l m) = q := ⟨_, rfl⟩
          have HQ := Aside0.mk hq
          clear hq
          have hof : ∀ (W' : World) (A' : Option Addr) (c' : Nat), (nx l m).length ≤ c' → Kd.C (Kd.int .i64) W' A' (nx l m).length (nx l m) → Memo W' bm → Calls Tryd.prog 45 #[.map (some bm), .slice A' (nx l m).length c'] W' fun e w' => e = .returned (.agg #[.int .i64 q.1, .int .i64 q.2]) ∧ Memo w' bm ∧ W'.grownBy w' (some bm) ∧ (∀ l', ok6 l' → sm (nx l m) < sm l' → Absent W' bm l' → Absent w' bm l') := fun W' A' c' h1 h2 h3 => by
            have h4 := IH.out (nx l m) A' c' bm W' HNX.out.1 (by have := HNX.out.2; have := HS.out; omega) h1 h2 h3
            rw [HQ.out] at h4
            exact h4
          have HOF := Aside0.mk hof
          have hbw : bm < wr.heap.size := by have := HO.out.a; have := HO.out.b; have := HO.out.c; have := HO.out.d; have := HST.out.tl; omega
          have htl := HST.out.tl
          clear hof
          go_cut [13] from 30 to 68 (fun s13 wx => ∃ n13, s13 = .pointer (some ⟨n13, 0, none⟩) ∧ top ≤ n13 ∧ Aside0 (wx.heap[n13]? = some (.cells #[.int .i64 q.1, .int .i64 q.2] 50 (0, 0))) ∧ Aside0 (St W bm (P + 1) (P + 2) top l (.slice (some ad) (mv l).length c27) i wx))
          case first =>
            go_region_held3 (fun w' => w'.cell? ad2 = some (.int .i64 x) ∧ w'.cell? ⟨ad2.block, ad2.off + 1, none⟩ = some (.int .i64 y) ∧ St W bm (P + 1) (P + 2) top l (.slice (some ad) (mv l).length c27) i w') (first | assumption | exact Sx_alloc HO.out (by assumption) _ | exact Sx_store HO.out HB01.out (by omega) (by assumption))
              (first
                | (go_at_call 66; refine (impl_bitten.calls A c l x y (nx l m) _ (Sx_row HM0.out HR.out (by assumption)) HC.out HBT.out).mono ?_; rintro e w2 ⟨v2, rfl, hr2, hb2⟩; obtain ⟨A2, c2, rfl, hc2, hC2⟩ := Kd.R_reads hr2; have HC2 := Aside0.mk hC2; have s2 := Sx_below HO.out (by assumption) hb2; have z2 : wr.heap.size ≤ w2.heap.size := Nat.le_trans (by first | exact Nat.le_refl _ | (simp; done)) hb2.size; (try have b2 : w2.heap[wr.heap.size]? = some (.cells #[.int .i64 0, .int .i64 0] 50 (0, 0)) := blk_below (blk_new wr.drew _) hb2); clear hr2 hb2 hC2)
                | (go_at_call 45; refine (HOF.out _ A2 c2 hc2 (by first | exact HC2.out | exact Kd.C_alloc HC2.out _) (Sx_memo (by assumption))).mono ?_; rintro e w3 ⟨rfl, hm3, hg3, ha3⟩; have s3 := Sx_of HO.out (by assumption) hg3 hm3 HOK.out HNX.out.2 ha3; have z3 : w2.heap.size ≤ w3.heap.size := Nat.le_trans (by first | exact Nat.le_refl _ | (simp; done)) hg3.size; (try have b3 : w3.heap[w2.heap.size]? = some (.cells #[.int .i64 0, .int .i64 0] 50 (0, 0)) := blk_grown (blk_new w2 _) hg3 (fun e => by injection e with e; omega)); (try have b3 : w3.heap[wr.heap.size]? = some (.cells #[.int .i64 0, .int .i64 0] 50 (0, 0)) := blk_grown b2 hg3 (fun e => by injection e with e; omega)); (try have e3a : w3.cell? ⟨_, 0, none⟩ = some (.int .i64 0) := (blk_cell b3 0).trans rfl); (try have e3b : w3.cell? ⟨_, 1, none⟩ = some (.int .i64 0) := (blk_cell b3 1).trans rfl); (try have f3a := blk_frozen b3 0); (try have f3b := blk_frozen b3 1); clear hm3 hg3 ha3))
            all_goals (try go_wp2_with fail)
            all_goals go_meet
            all_goals first
              | exact ⟨_, rfl, by omega, ⟨blk_new w3 _⟩, ⟨(Sx_alloc HO.out s3 _).2.2⟩⟩
              | exact ⟨_, rfl, by omega, ⟨blk_put (cs := #[.int .i64 q.1, .int .i64 0]) (blk_put (cs := #[.int .i64 0, .int .i64 0]) b3 0 _ rfl) 1 _ rfl⟩, ⟨(Sx_store (a1 := ⟨ad2.block, ad2.off + 1, none⟩) HO.out HB01.out (by omega) s3).2.2⟩⟩
          case rest =>
            obtain ⟨n13, rfl, htn, HN13, HST2⟩ := hcut
            clear hy0 hy1 hx0 s0 HST HOF HB01 hb0 hb1
            have hqin := fate_in HNX.out.1
            rw [HQ.out] at hqin
            obtain ⟨lg, hlg⟩ : ∃ lg, (FS.take i).foldl lgs 0 = lg := ⟨_, rfl⟩
            obtain ⟨qk, hqk⟩ : ∃ qk, (FS.take i).foldl qks (-1) = qk := ⟨_, rfl⟩
            rw [hlg, hqk]
            have hwq : wrap64 (q.2 + 1) = q.2 + 1 := PEv.wrap_in (by omega) (by omega)
            have c13a : wc.cell? ⟨n13, 0, none⟩ = some (.int .i64 q.1) := (blk_cell HN13.out 0).trans rfl
            have c13b : wc.cell? ⟨n13, 1, none⟩ = some (.int .i64 q.2) := (blk_cell HN13.out 1).trans rfl
            have hi36 : i < maxLen := by unfold maxLen; omega
            have hFi : i < FS.length := by have := HFL.out; omega
            have hFq : FS[i] = q := by
              have e1 : FS[i] = fate (nx l (mv l)[i]) := by simp only [← HFS.out, List.getElem_map]
              rw [e1, HMI.out, HQ.out]
            have HLG : Aside0 ((FS.take (i + 1)).foldl lgs 0 = lgs lg q) := ⟨by rw [List.take_succ_eq_append_getElem hFi, List.foldl_append, hlg, hFq]; rfl⟩
            have HQK : Aside0 ((FS.take (i + 1)).foldl qks (-1) = qks qk q) := ⟨by rw [List.take_succ_eq_append_getElem hFi, List.foldl_append, hqk, hFq]; rfl⟩
            have HXQ : Aside0 (q.1 = (fate (nx l (mv l)[i])).1) := ⟨by rw [HMI.out, HQ.out]⟩
            have hnP : n13 ≠ P + 1 := by have := HO.out.c; have := HO.out.d; omega
            clear hlg hqk hFq hFi
            have HLT := Aside0.mk hlt
            by_cases hz : q.1 = 0
            · have hz1 : (q.1 == 0) = true := by simp [hz]
              by_cases hn : qk < 0
              · have hn1 : decide (qk < 0) = true := decide_eq_true hn
                have HZ : Aside0 (qks qk q = q.2 + 1) := ⟨by unfold qks; rw [if_pos ⟨hz, .inl hn⟩]⟩
                have HN1 := Aside0.mk hz
                clear hz
                go_wp2_with (at_mapUpdate; refine Seen.at_store _ rfl _ _ _ rfl (P + 1) i _ HST2.out.seen hi36 rfl q.1 (WalkArith.wf_i64 (by omega)) rfl rfl ?_; intro w6 hs6 hg6; have HS6 := Aside0.mk (HST2.out.store HO.out HLT.out HXQ.out hg6 hs6); have hn6 := (hg6.block n13 (blk_lt HN13.out) (by simp; omega)).trans HN13.out; have d13a : w6.cell? ⟨n13, 0, none⟩ = some (.int .i64 q.1) := (blk_cell hn6 0).trans rfl; have d13b : w6.cell? ⟨n13, 1, none⟩ = some (.int .i64 q.2) := (blk_cell hn6 1).trans rfl; clear hs6 hg6 hn6)
                go_roundg ((mv l).length - (i + 1))
                case measure => omega
                case rel => exact ⟨i + 1, by omega, by omega, by rw [HLG.out]; congr 1; unfold lgs; split <;> omega, by rw [HQK.out, HZ.out], by go_num, HS6⟩
              · have hn1 : decide (qk < 0) = false := decide_eq_false hn
                by_cases hk : q.2 + 1 < qk
                · have hk1 : decide (q.2 + 1 < qk) = true := decide_eq_true hk
                  have HZ : Aside0 (qks qk q = q.2 + 1) := ⟨by unfold qks; rw [if_pos ⟨hz, .inr hk⟩]⟩
                  have HN1 := Aside0.mk hz
                  clear hz
                  go_wp2_with (at_mapUpdate; refine Seen.at_store _ rfl _ _ _ rfl (P + 1) i _ HST2.out.seen hi36 rfl q.1 (WalkArith.wf_i64 (by omega)) rfl rfl ?_; intro w6 hs6 hg6; have HS6 := Aside0.mk (HST2.out.store HO.out HLT.out HXQ.out hg6 hs6); have hn6 := (hg6.block n13 (blk_lt HN13.out) (by simp; omega)).trans HN13.out; have d13a : w6.cell? ⟨n13, 0, none⟩ = some (.int .i64 q.1) := (blk_cell hn6 0).trans rfl; have d13b : w6.cell? ⟨n13, 1, none⟩ = some (.int .i64 q.2) := (blk_cell hn6 1).trans rfl; clear hs6 hg6 hn6)
                  go_roundg ((mv l).length - (i + 1))
                  case measure => omega
                  case rel => exact ⟨i + 1, by omega, by omega, by rw [HLG.out]; congr 1; unfold lgs; split <;> omega, by rw [HQK.out, HZ.out], by go_num, HS6⟩
                · have hk1 : decide (q.2 + 1 < qk) = false := decide_eq_false hk
                  have HZ : Aside0 (qks qk q = qk) := ⟨by unfold qks; rw [if_neg (fun h => h.2.elim hn hk)]⟩
                  have HN1 := Aside0.mk hz
                  clear hz
                  go_wp2_with (at_mapUpdate; refine Seen.at_store _ rfl _ _ _ rfl (P + 1) i _ HST2.out.seen hi36 rfl q.1 (WalkArith.wf_i64 (by omega)) rfl rfl ?_; intro w6 hs6 hg6; have HS6 := Aside0.mk (HST2.out.store HO.out HLT.out HXQ.out hg6 hs6); have hn6 := (hg6.block n13 (blk_lt HN13.out) (by simp; omega)).trans HN13.out; have d13a : w6.cell? ⟨n13, 0, none⟩ = some (.int .i64 q.1) := (blk_cell hn6 0).trans rfl; have d13b : w6.cell? ⟨n13, 1, none⟩ = some (.int .i64 q.2) := (blk_cell hn6 1).trans rfl; clear hs6 hg6 hn6)
                  go_roundg ((mv l).length - (i + 1))
                  case measure => omega
                  case rel => exact ⟨i + 1, by omega, by omega, by rw [HLG.out]; congr 1; unfold lgs; split <;> omega, by rw [HQK.out, HZ.out], by go_num, HS6⟩
            · have hz1 : (q.1 == 0) = false := by simp [hz]
              have HZ : Aside0 (qks qk q = qk) := ⟨by unfold qks; rw [if_neg (fun h => hz h.1)]⟩
              go_wp2_with (at_mapUpdate; refine Seen.at_store _ rfl _ _ _ rfl (P + 1) i _ HST2.out.seen hi36 rfl q.1 (WalkArith.wf_i64 (by omega)) rfl rfl ?_; intro w6 hs6 hg6; have HS6 := Aside0.mk (HST2.out.store HO.out HLT.out HXQ.out hg6 hs6); have hn6 := (hg6.block n13 (blk_lt HN13.out) (by simp; omega)).trans HN13.out; have d13a : w6.cell? ⟨n13, 0, none⟩ = some (.int .i64 q.1) := (blk_cell hn6 0).trans rfl; have d13b : w6.cell? ⟨n13, 1, none⟩ = some (.int .i64 q.2) := (blk_cell hn6 1).trans rfl; clear hs6 hg6 hn6)
              go_roundg ((mv l).length - (i + 1))
              case measure => omega
              case rel => exact ⟨i + 1, by omega, by omega, by rw [HLG.out]; congr 1; unfold lgs; split <;> omega, by rw [HQK.out, HZ.out], by go_num, HS6⟩
        · obtain rfl : i = (mv l).length := by omega
          have hFt : FS.take (mv l).length = FS := List.take_of_length_le (by rw [HFL.out]; exact Nat.le_refl _)
          rw [hFt]
          clear hFt
          have hown : fate l = own FS := by rw [fate_eq HOK.out, HFS.out]
          have hfin := fate_in HOK.out
          obtain ⟨SL, hSL⟩ : ∃ SL, (((mv l).take (mv l).length).map (fun m => (fate (nx l m)).1)).reverse = SL := ⟨_, rfl⟩
          have hSE : SL = (FS.map (·.1)).reverse := by
            rw [← hSL, List.take_of_length_le (Nat.le_refl _), ← HFS.out, List.map_map]
            rfl
          have hseen := HST.out.seen
          rw [hSL] at hseen
          have HSN := Aside0.mk hseen
          obtain ⟨V, hV, hmx, hVn, hVin⟩ := mex_ex (FS.map (·.1)) (by rw [List.length_map, HFL.out]; omega)
          have hSI : ∀ x : Int, x ∈ SL ↔ x ∈ FS.map (·.1) := fun x => by rw [hSE, List.mem_reverse]
          obtain ⟨lg, hlg⟩ : ∃ lg, FS.foldl lgs 0 = lg := ⟨_, rfl⟩
          obtain ⟨qk, hqk⟩ : ∃ qk, FS.foldl qks (-1) = qk := ⟨_, rfl⟩
          unfold Go.Proofs.YtnmibkkchgagbaaDoor.PFate.own at hown
          rw [hmx, hqk, hlg] at hown
          rw [hlg, hqk]
          have HVn : Aside0 (decide ((V : Int) ∈ SL) = false) := ⟨decide_eq_false (fun h => hVn ((hSI _).1 h))⟩
          have HVi : Aside0 (∀ v : Nat, v < V → decide ((v : Int) ∈ SL) = true) := ⟨fun v hv => decide_eq_true ((hSI _).2 (hVin v hv))⟩
          have HFT := Aside0.mk hown
          rw [List.length_map, HFL.out] at hV
          have hbb : (if qk ≥ 0 then qk else lg) = (if qk ≥ 0 then qk else lg) := rfl
          have HSL := Aside0.mk hSL
          clear hfin hSL hSE hseen hmx hVn hVin hSI hlg hqk hown hbb hi hgg hlt
          obtain ⟨N, hN⟩ : ∃ N, wr.heap.size = N := ⟨_, rfl⟩
          have htlN : top ≤ N := by rw [← hN]; exact HST.out.tl
          have hord := HO.out
          obtain ⟨o1, o2, o3, o4⟩ := hord
          go_wp2
          have HS0 : Aside0 (St W bm (P + 1) (P + 2) top l (.slice A27 (mv l).length c27) (mv l).length (wr.alloc (.cells #[.int .i64 0, .int .i64 lg] 50))) := ⟨HST.out.below HO.out (below_alloc (Below.refl _ _) _)⟩
          have HN0 : Aside0 ((wr.alloc (.cells #[.int .i64 0, .int .i64 lg] 50)).heap[N]? = some (.cells #[.int .i64 0, .int .i64 lg] 50 (0, 0))) := ⟨by rw [← hN]; exact blk_new wr _⟩
          generalize wr.alloc (.cells #[.int .i64 0, .int .i64 lg] 50) = wq at HS0 HN0 ⊢
          clear HST HSN hN
          go_loopg [71] V (fun gg s71 wr => ∃ v : Nat, v ≤ V ∧ V - v ≤ gg ∧ Aside0 (wr.heap[N]? = some (.cells #[.int .i64 v, .int .i64 lg] 50 (0, 0))) ∧ Aside0 (St W bm (P + 1) (P + 2) top l (.slice A27 (mv l).length c27) (mv l).length wr))
          case atStart => exact ⟨0, Nat.zero_le _, Nat.le_refl _, HN0, HS0⟩
          case round =>
            clear HN0 HS0
            obtain ⟨v, hvV, hgv, HNv, HSv⟩ := hrel
            have c14a : wr.cell? ⟨N, 0, none⟩ = some (.int .i64 v) := (blk_cell HNv.out 0).trans rfl
            have c14b : wr.cell? ⟨N, 1, none⟩ = some (.int .i64 lg) := (blk_cell HNv.out 1).trans rfl
            have f14a := blk_frozen HNv.out 0
            have f14b := blk_frozen HNv.out 1
            have hsn := HSv.out.seen
            rw [HSL.out] at hsn
            have HSN := Aside0.mk hsn
            clear hsn
            by_cases hvl : v < V
            · have hdv := HVi.out v hvl
              have HDV := Aside0.mk hdv
              clear hdv
              go_wp2_with (at_lookup; refine Seen.at_look _ rfl _ _ rfl (P + 1) _ SL HSN.out rfl (v : Int) (WalkArith.wf_i64 (by omega)) rfl ?_; rw [HDV.out])
              go_roundg (V - (v + 1))
              case measure => omega
              case rel =>
                have hgs := set1_grown wr N 0 (.int .i64 ((v : Int) + 1))
                exact ⟨v + 1, by omega, by omega, ⟨blk_put (cs := #[.int .i64 v, .int .i64 lg]) HNv.out 0 _ (by simp)⟩, ⟨HSv.out.fresh HO.out hgs (fun k hk => by injection hk with hk; omega)⟩⟩
            · obtain rfl : v = V := by omega
              clear hgv hvl hvV
              by_cases hqn : 0 ≤ qk
              · have hq1 : decide (0 ≤ qk) = true := decide_eq_true hqn
                have HN1 : Aside0 ((wr.setCell ⟨N, 1, none⟩ (.int .i64 qk)).heap[N]? = some (.cells #[.int .i64 v, .int .i64 qk] 50 (0, 0))) := ⟨blk_put (cs := #[.int .i64 v, .int .i64 lg]) HNv.out 1 _ rfl⟩
                have HSs : Aside0 (St W bm (P + 1) (P + 2) top l (.slice A27 (mv l).length c27) (mv l).length (wr.setCell ⟨N, 1, none⟩ (.int .i64 qk))) := ⟨HSv.out.fresh HO.out (set1_grown wr N 1 (.int .i64 qk)) (fun k hk => by injection hk with hk; omega)⟩
                have HFE : Aside0 (fate l = ((v : Int), qk)) := ⟨by rw [HFT.out, if_pos (by omega)]⟩
                obtain ⟨n2, D2, hown2, hroom2, hmem2⟩ := HSs.out.memo
                have hn2 : n2 < maxLen := by unfold maxLen; omega
                have habs : Maps.has D2 (key l) = false := by
                  obtain ⟨n3, D3, h3, h4⟩ := HSs.out.abs
                  rw [owns_one hown2 h3]
                  exact h4
                have HOW2 := Aside0.mk hown2
                have HR2 := Aside0.mk hroom2
                have HM2 := Aside0.mk hmem2
                have HAB := Aside0.mk habs
                have hNz := blk_lt HN1.out
                have hWz := blk_lt HSs.out.res
                have HZZ : Aside0 (N < (wr.setCell ⟨N, 1, none⟩ (.int .i64 qk)).heap.size ∧ W.heap.size < (wr.setCell ⟨N, 1, none⟩ (.int .i64 qk)).heap.size) := ⟨⟨hNz, hWz⟩⟩
                clear hown2 hroom2 hmem2 habs hNz hWz
                go_wp2_with (first
                  | (at_lookup; refine Seen.at_look _ rfl _ _ rfl (P + 1) _ SL HSN.out rfl (v : Int) (WalkArith.wf_i64 (by omega)) rfl ?_; rw [HVn.out])
                  | (at_mapUpdate; refine wpList_mapUpdate_own _ rfl _ _ _ 52 rfl 9 50 law9 Tryd.underlying52 pairElem bm n2 D2 rfl HOW2.out hn2 _ _ _ rfl rfl hkey (pairD ((v : Int), qk)) [] rfl ?_; intro w4 hown4 hgrow4; have HO4 := Aside0.mk hown4; have HG4 := Aside0.mk hgrow4; have hn14 := (hgrow4.block N HZZ.out.1 (by simp; omega)).trans HN1.out; have hnr := (hgrow4.block W.heap.size HZZ.out.2 (by simp; omega)).trans HSs.out.res; have g14a := (blk_cell hn14 0).trans rfl; have g14b := (blk_cell hn14 1).trans rfl; have g9a := (blk_cell hnr 0).trans rfl; have g9b := (blk_cell hnr 1).trans rfl; have f9a := blk_frozen hnr 0; have f9b := blk_frozen hnr 1; have HN9c := Aside0.mk hnr; clear hown4 hgrow4 hn14 hnr))
                refine bodyPost_ret (results_cell_row rfl _ _ W.heap.size 50 #[.int .i64 v, .int .i64 qk] (0, 0) _ rfl (by refine blk_put (cs := #[.int .i64 v, .int .i64 0]) ?_ 1 _ rfl; exact blk_put (cs := #[.int .i64 0, .int .i64 0]) HN9c.out 0 _ rfl) Tryd.underlying50 rfl (by kernel_rfl)) rfl ?_
                have hs2 := set2_grown w4 W.heap.size (.int .i64 v) (.int .i64 qk)
                have hkl : WideAt.IsKeyLit (key l) := law9.key hkey
                refine ⟨by rw [HFE.out], ⟨n2 + 1, _, HO4.out.kept hs2 (by simp; omega), ?_, fun l' hok' hhas => ?_⟩, grown_far (World.grownBy.trans HSs.out.gr HG4.out) hs2 (Nat.le_refl _), fun l' hok' hb ha => ?_⟩
                · have := room_put (d := pairD ((v : Int), qk)) HOK.out HOW2.out.isMap HAB.out hkl
                  have := HR2.out
                  omega
                · by_cases he : key l' = key l
                  · have e1 := key_inj hok' HOK.out he
                    rw [he, atKey_put_same HOW2.out.isMap hkl, e1, HFE.out]
                  · rw [has_put_other he] at hhas
                    rw [atKey_put_other he]
                    exact HM2.out l' hok' hhas
                · obtain ⟨n3, D3, h3, h4⟩ := HSs.out.big l' hok' hb ha
                  refine ⟨n2 + 1, _, HO4.out.kept hs2 (by simp; omega), ?_⟩
                  rw [has_put_other (fun he => by have := key_inj hok' HOK.out he; rw [this] at hb; omega), owns_one HOW2.out h3]
                  exact h4
              · have hq1 : decide (0 ≤ qk) = false := decide_eq_false hqn
                have HN1 : Aside0 (wr.heap[N]? = some (.cells #[.int .i64 v, .int .i64 lg] 50 (0, 0))) := ⟨HNv.out⟩
                have HSs : Aside0 (St W bm (P + 1) (P + 2) top l (.slice A27 (mv l).length c27) (mv l).length wr) := ⟨HSv.out⟩
                have HFE : Aside0 (fate l = ((v : Int), lg)) := ⟨by rw [HFT.out, if_neg (by omega)]⟩
                obtain ⟨n2, D2, hown2, hroom2, hmem2⟩ := HSs.out.memo
                have hn2 : n2 < maxLen := by unfold maxLen; omega
                have habs : Maps.has D2 (key l) = false := by
                  obtain ⟨n3, D3, h3, h4⟩ := HSs.out.abs
                  rw [owns_one hown2 h3]
                  exact h4
                have HOW2 := Aside0.mk hown2
                have HR2 := Aside0.mk hroom2
                have HM2 := Aside0.mk hmem2
                have HAB := Aside0.mk habs
                have hNz := blk_lt HN1.out
                have hWz := blk_lt HSs.out.res
                have HZZ : Aside0 (N < wr.heap.size ∧ W.heap.size < wr.heap.size) := ⟨⟨hNz, hWz⟩⟩
                clear hown2 hroom2 hmem2 habs hNz hWz
                go_wp2_with (first
                  | (at_lookup; refine Seen.at_look _ rfl _ _ rfl (P + 1) _ SL HSN.out rfl (v : Int) (WalkArith.wf_i64 (by omega)) rfl ?_; rw [HVn.out])
                  | (at_mapUpdate; refine wpList_mapUpdate_own _ rfl _ _ _ 52 rfl 9 50 law9 Tryd.underlying52 pairElem bm n2 D2 rfl HOW2.out hn2 _ _ _ rfl rfl hkey (pairD ((v : Int), lg)) [] rfl ?_; intro w4 hown4 hgrow4; have HO4 := Aside0.mk hown4; have HG4 := Aside0.mk hgrow4; have hn14 := (hgrow4.block N HZZ.out.1 (by simp; omega)).trans HN1.out; have hnr := (hgrow4.block W.heap.size HZZ.out.2 (by simp; omega)).trans HSs.out.res; have g14a := (blk_cell hn14 0).trans rfl; have g14b := (blk_cell hn14 1).trans rfl; have g9a := (blk_cell hnr 0).trans rfl; have g9b := (blk_cell hnr 1).trans rfl; have f9a := blk_frozen hnr 0; have f9b := blk_frozen hnr 1; have HN9c := Aside0.mk hnr; clear hown4 hgrow4 hn14 hnr))
                refine bodyPost_ret (results_cell_row rfl _ _ W.heap.size 50 #[.int .i64 v, .int .i64 lg] (0, 0) _ rfl (by refine blk_put (cs := #[.int .i64 v, .int .i64 0]) ?_ 1 _ rfl; exact blk_put (cs := #[.int .i64 0, .int .i64 0]) HN9c.out 0 _ rfl) Tryd.underlying50 rfl (by kernel_rfl)) rfl ?_
                have hs2 := set2_grown w4 W.heap.size (.int .i64 v) (.int .i64 lg)
                have hkl : WideAt.IsKeyLit (key l) := law9.key hkey
                refine ⟨by rw [HFE.out], ⟨n2 + 1, _, HO4.out.kept hs2 (by simp; omega), ?_, fun l' hok' hhas => ?_⟩, grown_far (World.grownBy.trans HSs.out.gr HG4.out) hs2 (Nat.le_refl _), fun l' hok' hb ha => ?_⟩
                · have := room_put (d := pairD ((v : Int), lg)) HOK.out HOW2.out.isMap HAB.out hkl
                  have := HR2.out
                  omega
                · by_cases he : key l' = key l
                  · have e1 := key_inj hok' HOK.out he
                    rw [he, atKey_put_same HOW2.out.isMap hkl, e1, HFE.out]
                  · rw [has_put_other he] at hhas
                    rw [atKey_put_other he]
                    exact HM2.out l' hok' hhas
                · obtain ⟨n3, D3, h3, h4⟩ := HSs.out.big l' hok' hb ha
                  refine ⟨n2 + 1, _, HO4.out.kept hs2 (by simp; omega), ?_⟩
                  rw [has_put_other (fun he => by have := key_inj hok' HOK.out he; rw [this] at hb; omega), owns_one HOW2.out h3]
                  exact h4
end Go.Proofs.YtnmibkkchgagbaaDoor.Memo
