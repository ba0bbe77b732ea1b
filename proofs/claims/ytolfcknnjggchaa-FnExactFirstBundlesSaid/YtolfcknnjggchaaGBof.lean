/- impl.bundles tells the first bundles with the least paper, and this: the contract of that function, in the form of the print. Conditions: none but the bounds that its callers check. -/
import Derived.Test.YtolfcknnjggchaaPBx6
import Derived.Test.YtolfcknnjggchaaPPapers
import Derived.Test.YtolfcknnjggchaaPReach
import Derived.Test.YtolfcknnjggchaaGLib
import Derived.Shelf.Abstract
import Derived.Maps.OwnSet
import Derived.MapViews
import Derived.DeepKeys5
import Derived.Lib.SmallJoins
import Derived.Laws.EntriesVeiled
import Derived.StillTailTactics
import Derived.BigQuiet
import Derived.RegionTactic
import Derived.BigRegion
namespace Go.Proofs.Ytolfcknnjggchaa.PB
open Go.RowKit Go.Proofs.YtolfcknnjggchaaW.PrintWords Go.Proofs.YtolfcknnjggchaaW.PrintLast Go.Proofs.YtolfcknnjggchaaW.PrintMore Go.Shelf Go.Proofs.Ytolfcknnjggchaa.PReach Go.Proofs.Ytolfcknnjggchaa.PPapers Go.Maps Go.Joins
attribute [local go_sem] max2_int min2_int
set_option linter.unusedVariables false
set_option linter.unusedSimpArgs false

/-! ### keys and elements -/
theorem laidOut : laidOutB Try.prog = true := by kernel_rfl
theorem row72 : (72 : TypeId) < Try.prog.types.size := of_decide_eq_true (by kernel_rfl)
theorem wide72 : (match Try.prog.underlying 72 with | some (.array _ _) | some (.struct _) => true | _ => false) = true := by kernel_rfl
theorem law72 : Keyed Try.prog 72 := Keyed.of_law (deep_law_laid laidOut (m := 2) (by omega) row72 (by kernel_rfl) wide72)
theorem zero70 (w : World) : (zeroValue 70).run Try.prog w = .ok (.agg #[.int .i64 0, .int .i64 0]) w := by kernel_rfl
def key (a b : Int) : Lit := .string (keyBytes [.int .i64 a, .int .i64 b])
theorem under72 : Try.prog.underlying 72 = some (.array 2 3) := by kernel_rfl
theorem under3 : Try.prog.underlying 3 = some (.int .i64) := by kernel_rfl
theorem cells72 : Try.prog.cellsOf 72 = 2 := by kernel_rfl
theorem cells3 : Try.prog.cellsOf 3 = 1 := by kernel_rfl
theorem kt72 : Try.prog.keyType 72 = true := by kernel_rfl
theorem key_of {a b : Int} (ha : -9223372036854775808 ≤ a ∧ a ≤ 9223372036854775807) (hb : -9223372036854775808 ≤ b ∧ b ≤ 9223372036854775807) : keyOf Try.prog 72 (.agg #[.int .i64 a, .int .i64 b]) = some (key a b) := by
  have wa : (Lit.int .i64 a).wf = true := WalkArith.wf_i64 ha
  have wb : (Lit.int .i64 b).wf = true := WalkArith.wf_i64 hb
  obtain ⟨m, hm⟩ : ∃ m, Try.prog.types.size + 1 = m + 2 := ⟨Try.prog.types.size - 1, by have : 1 ≤ Try.prog.types.size := of_decide_eq_true (by kernel_rfl); omega⟩
  have e1 : Try.prog.keyLits (m + 2) 72 [.int .i64 a, .int .i64 b] = some [.int .i64 a, .int .i64 b] := by
    simp [Program.keyLits, under72, cells72, cells3, under3, wa, wb, List.range, List.range.loop]
  have e2 : (Value.agg #[.int .i64 a, .int .i64 b]).formed Try.prog 72 = true := by simp [Value.formed, under72, cells72]
  unfold keyOf
  rw [under72]
  simp only [kt72, hm, e2, Bool.and_self, if_true]
  rw [show (Value.agg #[.int .i64 a, .int .i64 b]).cells.toList = [.int .i64 a, .int .i64 b] from rfl, e1]
  rfl
theorem key_inj {a b a' b' : Int} (ha : -9223372036854775808 ≤ a ∧ a ≤ 9223372036854775807) (hb : -9223372036854775808 ≤ b ∧ b ≤ 9223372036854775807) (ha' : -9223372036854775808 ≤ a' ∧ a' ≤ 9223372036854775807) (hb' : -9223372036854775808 ≤ b' ∧ b' ≤ 9223372036854775807) (h : key a b = key a' b') : a = a' ∧ b = b' := by
  have := law72.inj (key_of ha hb) (by rw [h]; exact key_of ha' hb')
  simpa using this
def pairElem (v : Value) : Option (DataW Unit × List MemPlace) := match v with
  | .agg cs => match cs.toList with
    | [.int .i64 a, .int .i64 b] => some (.agg [.lit (.int .i64 a), .lit (.int .i64 b)], [])
    | _ => none
  | _ => none
def pairD (b : Int × Int) : DataW Unit := .agg [.lit (.int .i64 b.1), .lit (.int .i64 b.2)]
theorem pairElem_inv {v : Value} {b : Int × Int} {ps : List MemPlace} (h : pairElem v = some (pairD b, ps)) : v = .agg #[.int .i64 b.1, .int .i64 b.2] := by
  unfold pairElem at h
  split at h
  · next cs =>
    split at h
    · next x y he =>
      simp [pairD] at h
      obtain ⟨⟨rfl, rfl⟩, _⟩ := h
      have : cs = #[.int .i64 b.1, .int .i64 b.2] := by
        apply Array.toList_inj.1
        rw [he]
      rw [this]
    · cases h
  · cases h

theorem pairElem_inv2 {v : Value} {d : DataW Unit} {ps : List MemPlace} (h : pairElem v = some (d, ps)) : ∃ b : Int × Int, v = .agg #[.int .i64 b.1, .int .i64 b.2] ∧ d = pairD b := by
  have h0 := h
  unfold pairElem at h
  split at h
  · next cs =>
    split at h
    · next x y he =>
      simp only [Option.some.injEq, Prod.mk.injEq] at h
      obtain ⟨rfl, rfl⟩ := h
      exact ⟨(x, y), pairElem_inv (b := (x, y)) h0, rfl⟩
    · cases h
  · cases h
theorem lookup_pair {P : Program} (w : World) {ops : Array Oper} {rest : List Oper} {o : Oper} {a : Act} {Q : Exit → Act → World → Prop} (hg : o.guard = none) (m x : Operand) (t : TypeId) (hop : o.op = Op.lookup t m x true)
    (k e : TypeId) (K : Keyed P k) (ht : P.underlying t = some (.map k e)) (hz : (zeroValue e).run P w = .ok (.agg #[.int .i64 0, .int .i64 0]) w) (b n : Nat) (D : DataW Unit)
    (hm : a.eval m = .map (some b)) (hown : w.ownsMap P k pairElem b n D) (key : Value) (kl : Lit) (hx : a.eval x = key) (hkey : keyOf P k key = some kl)
    (hK : ∀ c : Int × Int, D.atKey kl (pairD (0, 0)) = pairD c → wpList P ops Q rest (a.put o.dst (.tuple #[.agg #[.int .i64 c.1, .int .i64 c.2], .bool (Maps.has D kl)])) w) :
    wpList P ops Q (o :: rest) a w :=
  wpList_lookup_own_ok w hg m x t hop k e K ht pairElem hz (pairD (0, 0)) [] rfl b n D hm hown key kl hx hkey (fun v ps hv => by
    obtain ⟨c, rfl, hc⟩ := pairElem_inv2 hv
    exact hK c hc)

/-! ### how much room is left -/
def grid : List (Int × Int) := (List.range 60).flatMap (fun (i : Nat) => (List.range 61).map (fun (j : Nat) => ((i : Int) + 1, (j : Int))))
theorem mem_grid {a b : Int} (ha : 1 ≤ a ∧ a ≤ 60) (hb : 0 ≤ b ∧ b ≤ 60) : (a, b) ∈ grid := by
  unfold grid
  rw [List.mem_flatMap]
  refine ⟨(a - 1).toNat, List.mem_range.2 (by omega), List.mem_map.2 ⟨b.toNat, List.mem_range.2 (by omega), ?_⟩⟩
  rw [Prod.mk.injEq]
  omega
theorem count_less {κ : Type} (p q : κ → Bool) : ∀ (l : List κ), (∀ x ∈ l, q x = true → p x = true) → l.countP q ≤ l.countP p
  | [], _ => by simp
  | x :: r, h => by
    have ih := count_less p q r (fun y hy => h y (by simp [hy]))
    have := h x (by simp)
    rw [List.countP_cons, List.countP_cons]
    split <;> split <;> simp_all <;> omega
theorem count_drop {κ : Type} (p q : κ → Bool) : ∀ (l : List κ), (∀ x ∈ l, q x = true → p x = true) → (∃ x ∈ l, p x = true ∧ q x = false) → l.countP q + 1 ≤ l.countP p
  | [], _, h => by simp at h
  | x :: r, h, ⟨y, hy, hp, hq⟩ => by
    rw [List.countP_cons, List.countP_cons]
    rcases List.mem_cons.1 hy with rfl | hy
    · have := count_less p q r (fun z hz => h z (by simp [hz]))
      rw [if_pos hp, if_neg (by rw [hq]; simp)]
      omega
    · have ih := count_drop p q r (fun z hz => h z (by simp [hz])) ⟨y, hy, hp, hq⟩
      have := h x (by simp)
      split <;> split <;> simp_all <;> omega
def room (D : DataW Unit) : Nat := grid.countP (fun x => !Maps.has D (key x.1 x.2))
theorem room_le (D : DataW Unit) : room D ≤ 3660 := by
  refine Nat.le_trans List.countP_le_length ?_
  decide +kernel
theorem room_put {D : DataW Unit} {a b : Int} {d : DataW Unit} (ha : 1 ≤ a ∧ a ≤ 60) (hb : 0 ≤ b ∧ b ≤ 60) (hm : Maps.IsMap D) (hh : Maps.has D (key a b) = false) (hk : WideAt.IsKeyLit (key a b)) : room (D.put (key a b) d) + 1 ≤ room D := by
  unfold room
  refine count_drop _ _ grid (fun x _ hx => ?_) ⟨(a, b), mem_grid ha hb, by simp [hh], ?_⟩
  · simp only [Bool.not_eq_true'] at hx ⊢
    by_cases he : key x.1 x.2 = key a b
    · rw [he]; exact hh
    · rwa [has_put_other he] at hx
  · rw [has_put_same hm hk]
    rfl

variable (LL : List Int) (most sl : Int)
def cst (k : Int) : Int := rd LL k + sl
def okK (a b : Int) : Prop := (1 ≤ a ∧ a ≤ 60) ∧ (0 ≤ b ∧ b ≤ 60)
/-- Block bm holds the table: whatever it holds is right. -/
def Memo (W : World) (bm : Nat) : Prop := ∃ n D, W.ownsMap Try.prog 72 pairElem bm n D ∧ n + room D ≤ 4000 ∧ ∀ a b, okK a b → Maps.has D (key a b) = true → D.atKey (key a b) (pairD (0, 0)) = pairD (bn (cst LL sl) most a b)
theorem Memo.kept {W W' : World} {bm : Nat} {row : Option Nat} (h : Memo LL most sl W bm) (hg : W.grownBy W' row) (hne : some bm ≠ row) : Memo LL most sl W' bm := by
  obtain ⟨n, D, h1, h2, h3⟩ := h
  exact ⟨n, D, h1.kept hg hne, h2, h3⟩

/-- The table in block bm lacks a key. -/
def Absent (W : World) (bm : Nat) (a b : Int) : Prop := ∃ n D, W.ownsMap Try.prog 72 pairElem bm n D ∧ Maps.has D (key a b) = false
theorem Absent.kept {W W' : World} {bm : Nat} {a b : Int} {row : Option Nat} (h : Absent W bm a b) (hg : W.grownBy W' row) (hne : some bm ≠ row) : Absent W' bm a b := by
  obtain ⟨n, D, h1, h2⟩ := h
  exact ⟨n, D, h1.kept hg hne, h2⟩
theorem owns_one {W : World} {bm n n' : Nat} {D D' : DataW Unit} (h : W.ownsMap Try.prog 72 pairElem bm n D) (h' : W.ownsMap Try.prog 72 pairElem bm n' D') : D = D' := by
  obtain ⟨es, cl, h1, _, _, h2⟩ := h
  obtain ⟨es', cl', h1', _, _, h2'⟩ := h'
  rw [h1] at h1'
  injection h1' with h1'
  injection h1' with e1 e2
  rw [h2, h2', e1]
theorem set2_grown (w : World) (N : Nat) (x y : Value) : w.grownBy ((w.setCell ⟨N, 0, none⟩ x).setCell ⟨N, 1, none⟩ y) (some N) :=
  ⟨rfl, rfl, rfl, by simp [World.setCell], fun i _ hne => by rw [Below.heap_setCell _ _ _ _ (fun e => hne (by rw [e])), Below.heap_setCell _ _ _ _ (fun e => hne (by rw [e]))]⟩
theorem grown_far {W w w' : World} {bm N : Nat} (h : W.grownBy w (some bm)) (hg : w.grownBy w' (some N)) (hN : W.heap.size ≤ N) : W.grownBy w' (some bm) :=
  ⟨hg.os.trans h.os, hg.tape.trans h.tape, hg.output.trans h.output, Nat.le_trans h.size hg.size, fun i hi hne => (hg.block i (Nat.lt_of_lt_of_le hi h.size) (fun e => by injection e with e; omega)).trans (h.block i hi hne)⟩
variable (ds : Array Value) (Bk Bm Bo Bl Bs bm g c : Nat)
/-- What the closure's variables hold. -/
structure Env (W : World) : Prop where
  k : W.heap[Bk]? = some (.cells #[.map (some bm)] 67 (0, 0))
  m : W.heap[Bm]? = some (.cells #[.int .i64 most] 3 (0, 0))
  o : W.heap[Bo]? = some (.cells #[.func (.func 65) #[] #[.pointer (some ⟨Bk, 0, none⟩), .pointer (some ⟨Bm, 0, none⟩), .pointer (some ⟨Bo, 0, none⟩), .pointer (some ⟨Bl, 0, none⟩), .pointer (some ⟨Bs, 0, none⟩)]] 68 (0, 0))
  l : W.heap[Bl]? = some (.cells #[.slice (some ⟨g, 0, none⟩) 61 c] 37 (0, 0))
  s : W.heap[Bs]? = some (.cells #[.int .i64 sl] 3 (0, 0))
  d : W.heap[g]? = some (.cells ds 3 (0, 0))
structure Apart : Prop where
  k : Bk ≠ bm
  m : Bm ≠ bm
  o : Bo ≠ bm
  l : Bl ≠ bm
  s : Bs ≠ bm
  d : g ≠ bm
theorem Env.kept {W W' : World} (ha : Apart Bk Bm Bo Bl Bs bm g) (h : Env most sl ds Bk Bm Bo Bl Bs bm g c W) (hg : W.grownBy W' (some bm)) : Env most sl ds Bk Bm Bo Bl Bs bm g c W' := by
  have q : ∀ (x : Nat) (o : Obj), x ≠ bm → W.heap[x]? = some o → W'.heap[x]? = some o := fun x o hx ho => (hg.block x (blk_lt ho) (by simp; exact hx)).trans ho
  exact ⟨q _ _ ha.k h.k, q _ _ ha.m h.m, q _ _ ha.o h.o, q _ _ ha.l h.l, q _ _ ha.s h.s, q _ _ ha.d h.d⟩
theorem bn_in {LL : List Int} {most sl : Int} (hLL : ∀ k, 1 ≤ k → k ≤ 60 → 0 ≤ rd LL k ∧ rd LL k ≤ 100000) (hm : 1 ≤ most ∧ most ≤ 60) (hs : 0 ≤ sl ∧ sl ≤ 60) {a b : Int} (ha : 1 ≤ a) (hb : b ≤ 60) : (0 ≤ (bn (cst LL sl) most a b).1 ∧ (bn (cst LL sl) most a b).1 ≤ 1099511627776) ∧ 0 ≤ (bn (cst LL sl) most a b).2 ∧ (bn (cst LL sl) most a b).2 ≤ 100000 := by
  have hc : ∀ k, 1 ≤ k → k ≤ most → 0 ≤ cst LL sl k ∧ cst LL sl k ≤ 1000000 := fun k h1 h2 => by
    have := hLL k h1 (by omega)
    unfold cst
    omega
  rcases bn_known (cst LL sl) most hc b.toNat a b (Nat.le_refl _) (by omega) ha with ⟨_, h⟩ | ⟨_, h⟩
  · have h1 := h.1.cheap ha hc
    have h2 := h.1.pos ha
    omega
  · rw [h]
    unfold big
    simp

set_option maxHeartbeats 4000000 in
set_option maxRecDepth 100000 in
theorem of_zero (a : Int) (W : World) (x2 x3 x4 x5 x6 : Value) :
    Calls Try.prog 65 #[.int .i64 a, .int .i64 0, x2, x3, x4, x5, x6] W fun e w' => e = .returned (.agg #[.int .i64 0, .int .i64 0]) ∧ W.grownBy w' none := by
  have hu70 := Try.underlying70
  go_enter Try.func65, Try.ntmps65
  go_wp2
  refine bodyPost_ret (results_cell_row rfl _ _ W.heap.size 70 #[.int .i64 0, .int .i64 0] (0, 0) _ rfl ?_ Try.underlying70 rfl (by kernel_rfl)) rfl ?_
  · exact blk_new W _
  · exact ⟨rfl, World.grownBy_alloc _ _ _⟩

set_option maxHeartbeats 4000000 in
set_option maxRecDepth 100000 in
theorem of_any (hl : LL.length = 61) (hLL : ∀ k, 1 ≤ k → k ≤ 60 → 0 ≤ rd LL k ∧ rd LL k ≤ 100000) (hmost : 1 ≤ most ∧ most ≤ 60) (hsl : 0 ≤ sl ∧ sl ≤ 60) (hds : ∀ k : Nat, k < 61 → ds[k]? = some (.int .i64 (rd LL k))) (hap : Apart Bk Bm Bo Bl Bs bm g) :
    ∀ (s : Nat) (a b : Int) (W : World), okK a b → b.toNat ≤ s → Memo LL most sl W bm → Env most sl ds Bk Bm Bo Bl Bs bm g c W →
    Calls Try.prog 65 #[.int .i64 a, .int .i64 b, .pointer (some ⟨Bk, 0, none⟩), .pointer (some ⟨Bm, 0, none⟩), .pointer (some ⟨Bo, 0, none⟩), .pointer (some ⟨Bl, 0, none⟩), .pointer (some ⟨Bs, 0, none⟩)] W fun e w' => e = .returned (.agg #[.int .i64 (bn (cst LL sl) most a b).1, .int .i64 (bn (cst LL sl) most a b).2]) ∧ Memo LL most sl w' bm ∧ W.grownBy w' (some bm) ∧ (∀ a' b', okK a' b' → b < b' → Absent W bm a' b' → Absent w' bm a' b') := by
  intro s
  induction s with
  | zero =>
    intro a b W hok hs hm he
    obtain rfl : b = 0 := by have := hok.2; omega
    rw [show bn (cst LL sl) most a 0 = (0, 0) by rw [bn_eq _ _ _ _ hok.1.1, if_pos rfl]]
    refine (of_zero a W _ _ _ _ _).mono ?_
    rintro e w' ⟨rfl, hg⟩
    exact ⟨rfl, hm.kept _ _ _ hg (by simp), ⟨hg.os, hg.tape, hg.output, hg.size, fun i hi _ => hg.block i hi (by simp)⟩, fun _ _ _ _ ha => ha.kept hg (by simp)⟩
  | succ s ih =>
    intro a b W hok hs hm he
    by_cases h0 : b = 0
    · subst h0
      rw [show bn (cst LL sl) most a 0 = (0, 0) by rw [bn_eq _ _ _ _ hok.1.1, if_pos rfl]]
      refine (of_zero a W _ _ _ _ _).mono ?_
      rintro e w' ⟨rfl, hg⟩
      exact ⟨rfl, hm.kept _ _ _ hg (by simp), ⟨hg.os, hg.tape, hg.output, hg.size, fun i hi _ => hg.block i hi (by simp)⟩, fun _ _ _ _ ha => ha.kept hg (by simp)⟩
    · have hu70 := Try.underlying70
      have hne : (b == 0) = false := beq_eq_false_iff_ne.2 h0
      obtain ⟨n, D, hown, hroom, hmem⟩ := hm
      have HMEM := Aside0.mk hmem
      have HROOM := Aside0.mk hroom
      have hok0 := hok
      unfold okK at hok0
      have hkey := key_of (a := a) (b := b) (by omega) (by omega)
      have HOWN := Aside0.mk hown
      have HE := Aside0.mk he
      have HOK := Aside0.mk hok
      have hk0 := (blk_cell (blk_alloc he.k (.cells #[.int .i64 0, .int .i64 0] 70)) 0).trans rfl
      clear hown hmem he hroom hok
      cases hh : Maps.has D (key a b) with
      | true =>
        have HH := Aside0.mk hh
        clear hh ih
        go_enter Try.func65, Try.ntmps65
        go_wp2_with (at_lookup; refine lookup_pair _ rfl _ _ 67 rfl 72 70 law72 Try.underlying67 (zero70 _) bm n D rfl (HOWN.out.alloc _) _ _ rfl hkey ?_; intro cc hat; rw [HH.out]; have HAT := Aside0.mk hat; clear hat)
        refine bodyPost_ret (results_cell_row rfl _ _ W.heap.size 70 #[.int .i64 cc.1, .int .i64 cc.2] (0, 0) _ rfl (blk_alloc (blk_new W _) _) Try.underlying70 rfl (by kernel_rfl)) rfl ?_
        have hg : W.grownBy ((W.alloc (.cells #[.int .i64 cc.1, .int .i64 cc.2] 70)).alloc (.cells #[.int .i64 cc.1, .int .i64 cc.2] 70)) (some bm) := World.grownBy.trans (World.grownBy_alloc _ _ _) (World.grownBy_alloc _ _ _)
        have hg2 : W.grownBy ((W.alloc (.cells #[.int .i64 cc.1, .int .i64 cc.2] 70)).alloc (.cells #[.int .i64 cc.1, .int .i64 cc.2] 70)) none := World.grownBy.trans (World.grownBy_alloc _ _ _) (World.grownBy_alloc _ _ _)
        refine ⟨?_, ⟨n, D, HOWN.out.kept hg2 (by simp), HROOM.out, HMEM.out⟩, hg, fun _ _ _ _ ha => ha.kept hg2 (by simp)⟩
        have e2 := HMEM.out a b HOK.out HH.out
        rw [HAT.out] at e2
        unfold pairD at e2
        injection e2 with e2
        simp at e2
        rw [e2.1, e2.2]
      | false =>
        have HH := Aside0.mk hh
        have IH := Aside0.mk ih
        clear hh ih
        have hbmlt : bm < W.heap.size := HOWN.out.lt
        go_enter Try.func65, Try.ntmps65
        go_wp2_with (at_lookup; refine lookup_pair _ rfl _ _ 67 rfl 72 70 law72 Try.underlying67 (zero70 _) bm n D rfl (HOWN.out.alloc _) _ _ rfl hkey ?_; intro cc hat; rw [HH.out]; clear hat)
        have HW3 : Aside0 (W.grownBy (((W.alloc (.cells #[.int .i64 0, .int .i64 0] 70)).alloc (.cells #[.int .i64 cc.1, .int .i64 cc.2] 70)).alloc (.cells #[.int .i64 1099511627776, .int .i64 0] 70)) none) := ⟨World.grownBy.trans (World.grownBy_alloc _ _ _) (World.grownBy.trans (World.grownBy_alloc _ _ _) (World.grownBy_alloc _ _ _))⟩
        have HN9 : Aside0 ((((W.alloc (.cells #[.int .i64 0, .int .i64 0] 70)).alloc (.cells #[.int .i64 cc.1, .int .i64 cc.2] 70)).alloc (.cells #[.int .i64 1099511627776, .int .i64 0] 70)).heap[W.heap.size]? = some (.cells #[.int .i64 0, .int .i64 0] 70 (0, 0))) := ⟨blk_alloc (blk_alloc (blk_new W _) _) _⟩
        have HN12 : Aside0 ((((W.alloc (.cells #[.int .i64 0, .int .i64 0] 70)).alloc (.cells #[.int .i64 cc.1, .int .i64 cc.2] 70)).alloc (.cells #[.int .i64 1099511627776, .int .i64 0] 70)).heap[W.heap.size + 2]? = some (.cells #[.int .i64 1099511627776, .int .i64 0] 70 (0, 0))) := ⟨by have := blk_new ((W.alloc (.cells #[.int .i64 0, .int .i64 0] 70)).alloc (.cells #[.int .i64 cc.1, .int .i64 cc.2] 70)) (.cells #[.int .i64 1099511627776, .int .i64 0] 70); simpa using this⟩
        have HS3 : Aside0 ((((W.alloc (.cells #[.int .i64 0, .int .i64 0] 70)).alloc (.cells #[.int .i64 cc.1, .int .i64 cc.2] 70)).alloc (.cells #[.int .i64 1099511627776, .int .i64 0] 70)).heap.size = W.heap.size + 3) := ⟨by simp⟩
        generalize ((W.alloc (.cells #[.int .i64 0, .int .i64 0] 70)).alloc (.cells #[.int .i64 cc.1, .int .i64 cc.2] 70)).alloc (.cells #[.int .i64 1099511627776, .int .i64 0] 70) = W3 at HW3 HN9 HN12 HS3
        have HEQ : Aside0 (bn (cst LL sl) most a b = (seg a (cnt a most b)).foldl (fun o k => better o ((bn (cst LL sl) most k (b - k)).1 + cst LL sl k, (bn (cst LL sl) most k (b - k)).2 + 1)) big) := ⟨by rw [bn_eq _ _ _ _ hok0.1.1, if_neg h0]⟩
        obtain ⟨lim, hlim⟩ : ∃ lim : Int, lim = if most < b then most else b := ⟨_, rfl⟩
        have hcnt : cnt a most b = (lim - a + 1).toNat := by unfold cnt; rw [hlim]
        have hlimb : lim ≤ b ∧ lim ≤ most ∧ 1 ≤ lim := by rw [hlim]; split <;> omega
        have HLIM := Aside0.mk hlim
        clear hlim hk0
        go_loopg [13] (lim - a + 1).toNat (fun gg s13 wr => ∃ i : Nat, i ≤ (lim - a + 1).toNat ∧ (lim - a + 1).toNat - i ≤ gg ∧ s13 = .int .i64 (a + (i : Int)) ∧ Aside0 (Memo LL most sl wr bm) ∧ Aside0 (Absent wr bm a b ∧ ∀ a' b', okK a' b' → b < b' → Absent W bm a' b' → Absent wr bm a' b') ∧ Aside0 (W.grownBy wr (some bm)) ∧ Aside0 (W.heap.size + 3 ≤ wr.heap.size) ∧ Aside0 (wr.heap[W.heap.size]? = some (.cells #[.int .i64 0, .int .i64 0] 70 (0, 0))) ∧ ∃ o : Int × Int, Aside0 (wr.heap[W.heap.size + 2]? = some (.cells #[.int .i64 o.1, .int .i64 o.2] 70 (0, 0))) ∧ Aside0 (o = (seg a i).foldl (fun o k => better o ((bn (cst LL sl) most k (b - k)).1 + cst LL sl k, (bn (cst LL sl) most k (b - k)).2 + 1)) big))
        case atStart => exact ⟨0, Nat.zero_le _, by omega, by simp, ⟨⟨n, D, HOWN.out.kept HW3.out (by simp), HROOM.out, HMEM.out⟩⟩, ⟨⟨n, D, HOWN.out.kept HW3.out (by simp), HH.out⟩, fun _ _ _ _ ha => ha.kept HW3.out (by simp)⟩, ⟨⟨HW3.out.os, HW3.out.tape, HW3.out.output, HW3.out.size, fun i hi _ => HW3.out.block i hi (by simp)⟩⟩, ⟨by rw [HS3.out]; exact Nat.le_refl _⟩, HN9, big, HN12, ⟨rfl⟩⟩
        case round =>
          clear HW3 HN9 HN12 HS3
          obtain ⟨i, hi, hgg, rfl, HM, HA, HG, HZ, HN9, o, HN12, HO⟩ := hrel
          have he2 := HE.out.kept most sl ds Bk Bm Bo Bl Bs bm g c hap HG.out
          have HE2 := Aside0.mk he2
          have hm3 : wr.cell? ⟨Bm, 0, none⟩ = some (.int .i64 most) := (blk_cell he2.m 0).trans rfl
          obtain ⟨kk, hkk⟩ : ∃ kk : Int, a + (i : Int) = kk := ⟨_, rfl⟩
          rw [hkk]
          have hkka : a ≤ kk := by omega
          have hmin : (if b < most then b else most) = lim := by rw [HLIM.out]; split <;> split <;> omega
          clear he2
          by_cases hlt : kk ≤ lim
          · have hio : okK kk (b - kk) := by unfold okK; omega
            have hcall := IH.out kk (b - kk) wr hio (by omega) HM.out HE2.out
            have hw1 : wrap64 (b - kk) = b - kk := by unfold wrap64; omega
            have ho3 : wr.cell? ⟨Bo, 0, none⟩ = some (.func (.func 65) #[] #[.pointer (some ⟨Bk, 0, none⟩), .pointer (some ⟨Bm, 0, none⟩), .pointer (some ⟨Bo, 0, none⟩), .pointer (some ⟨Bl, 0, none⟩), .pointer (some ⟨Bs, 0, none⟩)]) := (blk_cell HE2.out.o 0).trans rfl
            have eg : ∀ args w, (callFunc 65 args).run Try.prog w = .ok (.enter 65 args) w := enters_of Try.func65 (by kernel_rfl) rfl
            have HBN : Aside0 (((0 : Int) ≤ (bn (cst LL sl) most kk (b - kk)).1 ∧ (bn (cst LL sl) most kk (b - kk)).1 ≤ 1099511627776) ∧ 0 ≤ (bn (cst LL sl) most kk (b - kk)).2 ∧ (bn (cst LL sl) most kk (b - kk)).2 ≤ 100000) := ⟨bn_in hLL hmost hsl (by omega) (by omega)⟩
            obtain ⟨q, hq⟩ : ∃ q, bn (cst LL sl) most kk (b - kk) = q := ⟨_, rfl⟩
            rw [hq] at hcall HBN
            have HQ := Aside0.mk hq
            clear hq
            go_wp2_with (go_at_fn 65; refine hcall.mono ?_; rintro e w3 ⟨rfl, hm3, hg3, ha3⟩; have HM3 := Aside0.mk hm3; have HG3 := Aside0.mk hg3; have HA3 := Aside0.mk (And.intro (ha3 a b HOK.out (by omega) HA.out.1) (fun a' b' ho hb ha => ha3 a' b' ho (by omega) (HA.out.2 a' b' ho hb ha)) : Absent w3 bm a b ∧ ∀ a' b', okK a' b' → b < b' → Absent W bm a' b' → Absent w3 bm a' b'); clear hm3 hg3 ha3)
            clear hw1
            have HN14 := Aside0.mk (blk_new w3 (.cells #[.int .i64 q.1, .int .i64 q.2] 70))
            have HG4 : Aside0 (wr.grownBy (w3.alloc (.cells #[.int .i64 q.1, .int .i64 q.2] 70)) (some bm)) := ⟨World.grownBy.trans HG3.out (World.grownBy_alloc _ _ _)⟩
            have HM4 : Aside0 (Memo LL most sl (w3.alloc (.cells #[.int .i64 q.1, .int .i64 q.2] 70)) bm) := ⟨HM3.out.kept _ _ _ (World.grownBy_alloc w3 (.cells #[.int .i64 q.1, .int .i64 q.2] 70) none) (by simp)⟩
            have HA4 : Aside0 (Absent (w3.alloc (.cells #[.int .i64 q.1, .int .i64 q.2] 70)) bm a b ∧ ∀ a' b', okK a' b' → b < b' → Absent W bm a' b' → Absent (w3.alloc (.cells #[.int .i64 q.1, .int .i64 q.2] 70)) bm a' b') := ⟨HA3.out.1.kept (World.grownBy_alloc w3 _ none) (by simp), fun a' b' ho hb ha => (HA3.out.2 a' b' ho hb ha).kept (World.grownBy_alloc w3 _ none) (by simp)⟩
            have HZ4 : Aside0 (w3.heap.size < (w3.alloc (.cells #[.int .i64 q.1, .int .i64 q.2] 70)).heap.size ∧ wr.heap.size ≤ w3.heap.size) := ⟨by simp, HG3.out.size⟩
            obtain ⟨n14, hn14⟩ : ∃ n, w3.heap.size = n := ⟨_, rfl⟩
            rw [hn14] at HN14 HZ4 ⊢
            generalize w3.alloc (.cells #[.int .i64 q.1, .int .i64 q.2] 70) = w4 at HN14 HG4 HM4 HZ4 HA4
            clear hn14 HG3 HM3 HA3 hcall
            have he4 := HE2.out.kept most sl ds Bk Bm Bo Bl Bs bm g c hap HG4.out
            have HE4 := Aside0.mk he4
            have c14a : w4.cell? ⟨n14, 0, none⟩ = some (.int .i64 q.1) := (blk_cell HN14.out 0).trans rfl
            have c14b : w4.cell? ⟨n14, 1, none⟩ = some (.int .i64 q.2) := (blk_cell HN14.out 1).trans rfl
            have cl : w4.cell? ⟨Bl, 0, none⟩ = some (.slice (some ⟨g, 0, none⟩) 61 c) := (blk_cell he4.l 0).trans rfl
            have cs : w4.cell? ⟨Bs, 0, none⟩ = some (.int .i64 sl) := (blk_cell he4.s 0).trans rfl
            have cg : w4.cell? ⟨g, kk.toNat, none⟩ = some (.int .i64 (rd LL kk)) := by
              refine (blk_cell he4.d kk.toNat).trans ?_
              rw [hds kk.toNat (by omega), show ((kk.toNat : Nat) : Int) = kk by omega]
            have hrb := hLL kk (by omega) (by omega)
            obtain ⟨r, hr⟩ : ∃ r, rd LL kk = r := ⟨_, rfl⟩
            rw [hr] at cg hrb
            have HR := Aside0.mk hr
            clear hr he4 hm3 ho3 eg
            have hq1 := HBN.out
            have hwa : wrap64 (q.1 + r) = q.1 + r := by unfold wrap64; omega
            have hwb : wrap64 (q.1 + r + sl) = q.1 + r + sl := by unfold wrap64; omega
            have hwc : wrap64 (q.2 + 1) = q.2 + 1 := by unfold wrap64; omega
            have hk0 : (0 : Int) ≤ kk := by omega
            have hk61 : kk < (61 : Int) := by omega
            clear hq1
            have b14 := blk_lt HN14.out
            have bl := blk_lt HE4.out.l
            have bs := blk_lt HE4.out.s
            have bg := blk_lt HE4.out.d
            go_region
            have HN15 : Aside0 ((w4.alloc (.cells #[.int .i64 (q.1 + r + sl), .int .i64 (q.2 + 1)] 70)).drew.heap[w4.heap.size]? = some (.cells #[.int .i64 (q.1 + r + sl), .int .i64 (q.2 + 1)] 70 (0, 0))) := ⟨blk_drew (blk_new w4 _)⟩
            have HG5 : Aside0 (wr.grownBy (w4.alloc (.cells #[.int .i64 (q.1 + r + sl), .int .i64 (q.2 + 1)] 70)).drew (some bm)) := ⟨by have := World.grownBy.trans HG4.out (World.grownBy_alloc w4 (.cells #[.int .i64 (q.1 + r + sl), .int .i64 (q.2 + 1)] 70) (some bm)); exact ⟨this.os, this.tape, this.output, this.size, this.block⟩⟩
            have HM5 : Aside0 (Memo LL most sl (w4.alloc (.cells #[.int .i64 (q.1 + r + sl), .int .i64 (q.2 + 1)] 70)).drew bm) := ⟨by
              have h1 := HM4.out.kept _ _ _ (World.grownBy_alloc w4 (.cells #[.int .i64 (q.1 + r + sl), .int .i64 (q.2 + 1)] 70) none) (by simp)
              exact h1.kept _ _ _ (row := none) ⟨rfl, rfl, rfl, Nat.le_refl _, fun _ _ _ => rfl⟩ (by simp)⟩
            have HZ5 : Aside0 (wr.heap.size ≤ w4.heap.size ∧ w4.heap.size < (w4.alloc (.cells #[.int .i64 (q.1 + r + sl), .int .i64 (q.2 + 1)] 70)).drew.heap.size) := ⟨HG4.out.size, by show w4.heap.size < (w4.alloc _).heap.size; simp⟩
            have HA5 : Aside0 (Absent (w4.alloc (.cells #[.int .i64 (q.1 + r + sl), .int .i64 (q.2 + 1)] 70)).drew bm a b ∧ ∀ a' b', okK a' b' → b < b' → Absent W bm a' b' → Absent (w4.alloc (.cells #[.int .i64 (q.1 + r + sl), .int .i64 (q.2 + 1)] 70)).drew bm a' b') := by
              have hdd : w4.grownBy (w4.alloc (.cells #[.int .i64 (q.1 + r + sl), .int .i64 (q.2 + 1)] 70)).drew none := by
                have := World.grownBy_alloc w4 (.cells #[.int .i64 (q.1 + r + sl), .int .i64 (q.2 + 1)] 70) none
                exact ⟨this.os, this.tape, this.output, this.size, this.block⟩
              exact ⟨HA4.out.1.kept hdd (by simp), fun a' b' ho hb ha => (HA4.out.2 a' b' ho hb ha).kept hdd (by simp)⟩
            obtain ⟨n15, hn15⟩ : ∃ n, w4.heap.size = n := ⟨_, rfl⟩
            rw [hn15] at HN15 HZ5 ⊢
            generalize (w4.alloc (.cells #[.int .i64 (q.1 + r + sl), .int .i64 (q.2 + 1)] 70)).drew = w5 at HN15 HG5 HM5 HZ5 HA5
            have HN12b : Aside0 (w5.heap[W.heap.size + 2]? = some (.cells #[.int .i64 o.1, .int .i64 o.2] 70 (0, 0))) := ⟨(HG5.out.block (W.heap.size + 2) (by have := HZ.out; omega) (by simp; omega)).trans HN12.out⟩
            have HN9b : Aside0 (w5.heap[W.heap.size]? = some (.cells #[.int .i64 0, .int .i64 0] 70 (0, 0))) := ⟨(HG5.out.block W.heap.size (by have := HZ.out; omega) (by simp; omega)).trans HN9.out⟩
            clear HE4 HN14 HG4 HM4 HZ4 HA4 HN12 HN9 hn15 b14 bl bs bg c14a c14b cl cs cg hwa hwb hwc
            have d15a : w5.cell? ⟨n15, 0, none⟩ = some (.int .i64 (q.1 + r + sl)) := (blk_cell HN15.out 0).trans rfl
            have d15b : w5.cell? ⟨n15, 1, none⟩ = some (.int .i64 (q.2 + 1)) := (blk_cell HN15.out 1).trans rfl
            have d12a : w5.cell? ⟨W.heap.size + 1 + 1, 0, none⟩ = some (.int .i64 o.1) := (blk_cell HN12b.out 0).trans rfl
            have d12b : w5.cell? ⟨W.heap.size + 1 + 1, 1, none⟩ = some (.int .i64 o.2) := (blk_cell HN12b.out 1).trans rfl
            have hless := fun W => impl_bundled_less.calls (q.1 + r + sl) (q.2 + 1) o.1 o.2 (decide (Lt (q.1 + r + sl, q.2 + 1) o)) W (by
              unfold impl_bundled_less.f PReach.Lt
              simp only
              split
              · next h => simp [h]
              · next h =>
                split
                · next h2 => simp [h, h2]
                · next h2 => simp [h, h2])
            have hbm2 : bm ≠ W.heap.size + 2 := by omega
            have HF : Aside0 (∀ o', better o (q.1 + r + sl, q.2 + 1) = o' → o' = (seg a (i + 1)).foldl (fun o k => better o ((bn (cst LL sl) most k (b - k)).1 + cst LL sl k, (bn (cst LL sl) most k (b - k)).2 + 1)) big) := ⟨fun o' ho' => by
              rw [seg_snoc, List.foldl_append, ← HO.out, List.foldl_cons, List.foldl_nil, hkk, HQ.out, ← ho']
              unfold cst
              rw [HR.out, Int.add_assoc]⟩
            by_cases hlt2 : Lt (q.1 + r + sl, q.2 + 1) o
            · rw [decide_eq_true hlt2] at hless
              have HL2 := Aside0.mk hlt2
              clear hlt2
              go_wp2_with (go_at_call 66; refine (hless _).mono ?_; rintro e w6 ⟨rfl, hb6⟩; have HB6 := Aside0.mk hb6; have e15a := (hb6.cell (World.block_lt_of_cell? _ _ d15a)).trans d15a; have e15b := (hb6.cell (World.block_lt_of_cell? _ _ d15b)).trans d15b; have hn6 := blk_below HN12b.out hb6; have e12a := (blk_cell hn6 0).trans rfl; have e12b := (blk_cell hn6 1).trans rfl; have f12a := blk_frozen hn6 0; have f12b := blk_frozen hn6 1; have HN6 := Aside0.mk hn6; clear hb6 hn6)
              go_roundg ((lim - a + 1).toNat - (i + 1))
              case measure => omega
              case rel =>
                have hs2 := set2_grown w6 (W.heap.size + 1 + 1) (.int .i64 (q.1 + r + sl)) (.int .i64 (q.2 + 1))
                have hg6 := grown_of_below HB6.out none
                have hsz := HB6.out.size
                refine ⟨i + 1, by omega, by omega, by congr 1; omega, ⟨(HM5.out.kept _ _ _ hg6 (by simp)).kept _ _ _ hs2 (by simp; omega)⟩, ⟨(HA5.out.1.kept hg6 (by simp)).kept hs2 (by simp; omega), fun a' b' ho hb ha => ((HA5.out.2 a' b' ho hb ha).kept hg6 (by simp)).kept hs2 (by simp; omega)⟩, ⟨grown_far (World.grownBy.trans HG.out (World.grownBy.trans HG5.out (grown_of_below HB6.out (some bm)))) hs2 (by omega)⟩, ⟨by have := hs2.size; have := HZ5.out; have := HZ.out; omega⟩, ⟨(hs2.block W.heap.size (by have := HZ5.out; have := HZ.out; omega) (by simp; omega)).trans (blk_below HN9b.out HB6.out)⟩, (q.1 + r + sl, q.2 + 1), ⟨?_⟩, ⟨HF.out _ (by unfold better; rw [if_pos HL2.out])⟩⟩
                refine blk_put (cs := #[.int .i64 (q.1 + r + sl), .int .i64 o.2]) ?_ 1 _ rfl
                exact blk_put (cs := #[.int .i64 o.1, .int .i64 o.2]) HN6.out 0 _ rfl
            · rw [decide_eq_false hlt2] at hless
              have HL2 := Aside0.mk hlt2
              clear hlt2
              go_wp2_with (go_at_call 66; refine (hless _).mono ?_; rintro e w6 ⟨rfl, hb6⟩; have HB6 := Aside0.mk hb6; clear hb6)
              go_roundg ((lim - a + 1).toNat - (i + 1))
              case measure => omega
              case rel =>
                have hg6 := grown_of_below HB6.out none
                have hsz := HB6.out.size
                exact ⟨i + 1, by omega, by omega, by congr 1; omega, ⟨HM5.out.kept _ _ _ hg6 (by simp)⟩, ⟨HA5.out.1.kept hg6 (by simp), fun a' b' ho hb ha => (HA5.out.2 a' b' ho hb ha).kept hg6 (by simp)⟩, ⟨World.grownBy.trans HG.out (World.grownBy.trans HG5.out (grown_of_below HB6.out (some bm)))⟩, ⟨by have := HZ5.out; have := HZ.out; omega⟩, ⟨blk_below HN9b.out HB6.out⟩, o, ⟨blk_below HN12b.out HB6.out⟩, ⟨HF.out _ (by unfold better; rw [if_neg HL2.out])⟩⟩
          · have hie : i = cnt a most b := by rw [hcnt]; omega
            have hob : o = bn (cst LL sl) most a b := by rw [HO.out, HEQ.out, hie]
            have HOB := Aside0.mk hob
            obtain ⟨n2, D2, hown2, hroom2, hmem2⟩ := HM.out
            have HOW2 := Aside0.mk hown2
            have HR2 := Aside0.mk hroom2
            have HM2 := Aside0.mk hmem2
            have hk3 : wr.cell? ⟨Bk, 0, none⟩ = some (.map (some bm)) := (blk_cell HE2.out.k 0).trans rfl
            have e12a : wr.cell? ⟨W.heap.size + 1 + 1, 0, none⟩ = some (.int .i64 o.1) := (blk_cell HN12.out 0).trans rfl
            have e12b : wr.cell? ⟨W.heap.size + 1 + 1, 1, none⟩ = some (.int .i64 o.2) := (blk_cell HN12.out 1).trans rfl
            have hn2 : n2 < maxLen := by unfold maxLen; omega
            clear hown2 hroom2 hmem2 hob hie
            go_wp2_with (at_mapUpdate; refine wpList_mapUpdate_own _ rfl _ _ _ 67 rfl 72 70 law72 Try.underlying67 pairElem bm n2 D2 rfl HOW2.out hn2 _ _ _ rfl rfl hkey (pairD o) [] rfl ?_; intro w4 hown4 hgrow4; have HO4 := Aside0.mk hown4; have HG4 := Aside0.mk hgrow4; have hn12 := (hgrow4.block (W.heap.size + 1 + 1) (by have := HZ.out; omega) (by simp; omega)).trans HN12.out; have hn9 := (hgrow4.block W.heap.size (by have := HZ.out; omega) (by simp; omega)).trans HN9.out; have g12a := (blk_cell hn12 0).trans rfl; have g12b := (blk_cell hn12 1).trans rfl; have g9a := (blk_cell hn9 0).trans rfl; have g9b := (blk_cell hn9 1).trans rfl; have f9a := blk_frozen hn9 0; have f9b := blk_frozen hn9 1; have HN9c := Aside0.mk hn9; clear hown4 hgrow4 hn12 hn9)
            refine bodyPost_ret (results_cell_row rfl _ _ W.heap.size 70 #[.int .i64 o.1, .int .i64 o.2] (0, 0) _ rfl (by refine blk_put (cs := #[.int .i64 o.1, .int .i64 0]) ?_ 1 _ rfl; exact blk_put (cs := #[.int .i64 0, .int .i64 0]) HN9c.out 0 _ rfl) Try.underlying70 rfl (by kernel_rfl)) rfl ?_
            have hs2 := set2_grown w4 W.heap.size (.int .i64 o.1) (.int .i64 o.2)
            have hkl : WideAt.IsKeyLit (key a b) := law72.key hkey
            have hD : D2 = D2 := rfl
            have habs : Maps.has D2 (key a b) = false := by
              obtain ⟨n3, D3, h3, h4⟩ := HA.out.1
              rw [owns_one HOW2.out h3]
              exact h4
            refine ⟨by rw [← HOB.out], ⟨n2 + 1, _, HO4.out.kept hs2 (by simp; omega), ?_, fun a' b' hok' hhas => ?_⟩, grown_far (World.grownBy.trans HG.out HG4.out) hs2 (Nat.le_refl _), fun a' b' hok' hb ha => ?_⟩
            · have := room_put (d := pairD o) hok0.1 hok0.2 HOW2.out.isMap habs hkl
              have := HR2.out
              omega
            · by_cases he : key a' b' = key a b
              · have hok2 := hok'
                unfold okK at hok2
                obtain ⟨e1, e2⟩ := key_inj (by omega) (by omega) (by omega) (by omega) he
                rw [he, atKey_put_same HOW2.out.isMap hkl, e1, e2, HOB.out]
              · rw [has_put_other he] at hhas
                rw [atKey_put_other he]
                exact HM2.out a' b' hok' hhas
            · obtain ⟨n3, D3, h3, h4⟩ := HA.out.2 a' b' hok' hb ha
              refine ⟨n2 + 1, _, HO4.out.kept hs2 (by simp; omega), ?_⟩
              have hok2 := hok'
              unfold okK at hok2
              rw [has_put_other (fun he => by have := (key_inj (by omega) (by omega) (by omega) (by omega) he).2; omega), owns_one HOW2.out h3]
              exact h4
end Go.Proofs.Ytolfcknnjggchaa.PB
