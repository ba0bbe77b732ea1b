/- Texts of this claim joined, in the order in which they build: GOrder, PLine, GLines. -/
import Derived.Test.YtkoplphcdkmilaaK25
section
namespace Go.Proofs.Ytkoplphcdkmilaa.All
open Go.Shelf Go.Lib Go.Sort Go.RowKit Go.Proofs.YtkoplphcdkmilaaW.PrintWords Go.Proofs.YtkoplphcdkmilaaW.PrintLast Go.Proofs.YtkoplphcdkmilaaW.PrintMore GSteps
set_option linter.unusedVariables false
set_option linter.unusedSimpArgs false

theorem below_old {w w3 wr : World} (h : Below w.heap.size w w3) (h5 : Below w3.heap.size w3 wr) : Below w.heap.size w wr := below_then h h.size h5

theorem ordI_none (c : Nat → Int) : ∀ n, ordI c 0 n = []
  | 0 => rfl
  | n + 1 => by unfold ordI; rw [ordI_none c n]; rfl

theorem sort_lines_all {w w3 : World} {base pf p2 p3 c0 c1 : Nat} {ok : Nat → Prop} {v : Value} {A0 A1 : Option Addr} {l0 l1 : List Int}
    (hS : Kd.R (Kd.slice 3 (Kd.int .i64)) 41 w base ok v ((List.range (l0.length + l1.length)).map (rowOf l0.length))) (hb : w3.heap.size ≤ base)
    (hB : Below w3.heap.size w3 w) (r0 : Kd.C (Kd.int .i64) w3 A0 l0.length l0) (r1 : Kd.C (Kd.int .i64) w3 A1 l1.length l1)
    (hf : w.cell? ⟨pf, 0, none⟩ = some (.func (.func 48) #[] #[.pointer (some ⟨p2, 0, none⟩), .pointer (some ⟨p3, 0, none⟩)])) (npf : ¬ ok pf)
    (x0 : w.cell? ⟨p2, 0, none⟩ = some (.slice A0 l0.length c0)) (n2 : p2 < base) (x1 : w.cell? ⟨p3, 0, none⟩ = some (.slice A1 l1.length c1)) (n3 : p3 < base)
    (hl0 : l0.length < 12) (hl1 : l1.length < 12) (hc : ∀ j, 0 ≤ cstOf l0 l1 j ∧ cstOf l0 l1 j ≤ 100) :
    Calls Try.prog 49 #[v, .func (.func 50) #[] #[.pointer (some ⟨pf, 0, none⟩)]] w fun e w' => e = .returned (.tuple #[]) ∧ Kd.R (Kd.slice 3 (Kd.int .i64)) 41 w' base ok v ((ordI (cstOf l0 l1) (l0.length + l1.length) 100).map (rowOf l0.length)) ∧ Below base w w' := by
  by_cases hn : 0 < l0.length + l1.length
  · exact sort_lines hn hS hb hB r0 r1 hf npf x0 n2 x1 n3 hl0 hl1 hc
  · have e0 : l0.length + l1.length = 0 := by omega
    rw [e0] at hS ⊢
    rw [ordI_none]
    obtain ⟨A, c, rfl⟩ := Kd.R_slice hS
    refine (sort_empty A c _ w).mono ?_
    rintro e w' ⟨rfl, rfl⟩
    exact ⟨rfl, hS, Below.refl _ _⟩

set_option maxHeartbeats 8000000 in
set_option maxRecDepth 100000 in
theorem order_any (A0 : Option Addr) (c0 : Nat) (l0 : List Int) (A1 : Option Addr) (c1 : Nat) (l1 : List Int) (w : World) (hr0 : Kd.C (Kd.int .i64) w A0 l0.length l0) (hc0 : l0.length ≤ c0) (hr1 : Kd.C (Kd.int .i64) w A1 l1.length l1) (hc1 : l1.length ≤ c1)
    (h0 : impl_areLines.f l0 = some true) (h1 : impl_areLines.f l1 = some true) (hl0 : l0.length < 12) (hl1 : l1.length < 12) (hc : ∀ j, 0 ≤ cstOf l0 l1 j ∧ cstOf l0 l1 j ≤ 100) :
    Calls Try.prog 23 #[.slice A0 l0.length c0, .slice A1 l1.length c1] w fun e w' => ∃ v0_ : Value, e = .returned (.tuple #[v0_, .bool true]) ∧ Kd.R (Kd.slice 3 (Kd.int .i64)) 41 w' w.heap.size (fun _ => True) v0_ ((ordI (cstOf l0 l1) (l0.length + l1.length) 100).map (rowOf l0.length)) ∧ Below w.heap.size w w' := by
  have tok1 := True.intro
  have tok2 := True.intro
  have tok3 := True.intro
  have HR0 := Aside0.mk hr0
  have HR1 := Aside0.mk hr1
  have HC := Aside0.mk hc
  clear hc
  clear hr0 hr1
  have C0 := Aside0.mk (show ((w.alloc (.cells #[.slice A0 l0.length c0] 41)).alloc (.cells #[.slice A1 l1.length c1] 41)).cell? ⟨w.heap.size, 0, none⟩ = some (.slice A0 l0.length c0) from al_cell _ (by simp))
  have C1 := Aside0.mk (show ((w.alloc (.cells #[.slice A0 l0.length c0] 41)).alloc (.cells #[.slice A1 l1.length c1] 41)).cell? ⟨w.heap.size + 1, 0, none⟩ = some (.slice A1 l1.length c1) by simp)
  have HB := Aside0.mk (below_alloc (below_alloc (Below.refl w.heap.size w) (.cells #[.slice A0 l0.length c0] 41)) (.cells #[.slice A1 l1.length c1] 41))
  go_enter Try.func23, Try.ntmps23
  go_wp2_with (first
    | (go_at_call 47; clear tok1; refine (impl_areLines.calls A0 c0 l0 true _ (Kd.C_below HR0.out HB.out) hc0 h0).mono ?_; rintro e w2 ⟨rfl, hb⟩; have C0' := Aside0.mk ((hb.cell (World.block_lt_of_cell? _ _ C0.out)).trans C0.out); have C1' := Aside0.mk ((hb.cell (World.block_lt_of_cell? _ _ C1.out)).trans C1.out); have HB' := Aside0.mk (below_then HB.out HB.out.size hb); clear hb C0 C1 HB; have x1 := C1'.out)
    | (go_at_call 47; clear tok2 x1; refine (impl_areLines.calls A1 c1 l1 true _ (Kd.C_below HR1.out HB'.out) hc1 h1).mono ?_; rintro e w3 ⟨rfl, hb⟩; have C0 := Aside0.mk ((hb.cell (World.block_lt_of_cell? _ _ C0'.out)).trans C0'.out); have C1 := Aside0.mk ((hb.cell (World.block_lt_of_cell? _ _ C1'.out)).trans C1'.out); have HB := Aside0.mk (below_then HB'.out HB'.out.size hb); clear hb C0' C1' HB')
    | ((with_reducible refine gate_dst (N := 19) rfl ?_); clear tok3; refine Kd.S_lit (w0 := w3) (Kd.slice 3 (Kd.int .i64)) w3.heap.size 41 ?hg (N := 19) ?hd (xs := ([] : List (List Int))) (inner := []) (ok := fun _ => True) (okp := fun _ => True) ?hr ?hp (fun _ hk => hk) trivial (Below.refl _ _) (Nat.le_refl _) (by simp) ?_; (case hd => rfl); (case hg => rfl); (case hr => first | (go_simp; done) | (go_simp; rfl)); (case hp => exact Reps.none _ _); intro v19 w4 ho hb hg_ hnew_; clear hg_ hnew_; have HO := Aside0.mk ho; have HB4 := Aside0.mk hb; have x0 := (hb.cell (World.block_lt_of_cell? _ _ C0.out)).trans C0.out; have x1 := (hb.cell (World.block_lt_of_cell? _ _ C1.out)).trans C1.out; clear ho hb))
  clear x0 x1
  have P0 := Aside0.mk (show (w4.alloc (.cells #[.slice A0 l0.length c0, .slice A1 l1.length c1] 41)).cell? ⟨w4.heap.size, 0, none⟩ = some (.slice A0 l0.length c0) by simp)
  have P1 := Aside0.mk (show (w4.alloc (.cells #[.slice A0 l0.length c0, .slice A1 l1.length c1] 41)).cell? ⟨w4.heap.size, 1, none⟩ = some (.slice A1 l1.length c1) by simp)
  have HO5 := Aside0.mk (Kd.S_mono (ok' := fun k => k ≠ w4.heap.size) (Kd.S_alloc (Kd.S_elderB HO.out w4.heap.size (Nat.le_refl _)) (.cells #[.slice A0 l0.length c0, .slice A1 l1.length c1] 41)) (fun _ hk => hk.2))
  have HB5 := Aside0.mk (below_alloc HB4.out (.cells #[.slice A0 l0.length c0, .slice A1 l1.length c1] 41))
  have HZ5 := Aside0.mk (show w4.heap.size < (w4.alloc (.cells #[.slice A0 l0.length c0, .slice A1 l1.length c1] 41)).heap.size by simp)
  clear HO HB4
  obtain ⟨pb, hpb⟩ : ∃ p, p = w4.heap.size := ⟨_, rfl⟩
  rw [← hpb] at P0 P1 HO5 HZ5
  have HP := Aside0.mk hpb
  clear hpb
  go_loopg [6, 24] 2 (fun g1 v6 v24 wr => ∃ (i m : Nat), v24 = .int .i64 i ∧ 2 - i ≤ g1 ∧ ((i = 0 ∧ m = 0) ∨ (i = 1 ∧ m = l0.length) ∨ (i = 2 ∧ m = l0.length + l1.length)) ∧ Aside0 (wr.cell? ⟨w4.heap.size, 0, none⟩ = some (.slice A0 l0.length c0)) ∧ Aside0 (wr.cell? ⟨w4.heap.size, 1, none⟩ = some (.slice A1 l1.length c1)) ∧ Aside0 (Kd.S (Kd.slice 3 (Kd.int .i64)) 41 wr w3.heap.size (fun k => k ≠ w4.heap.size) v6 ((List.range m).map (rowOf l0.length))) ∧ Aside0 (Below w3.heap.size w3 wr) ∧ Aside0 (w4.heap.size < wr.heap.size))
  case atStart => exact ⟨0, 0, rfl, by omega, .inl ⟨rfl, rfl⟩, (by rw [HP.out] at P0; exact P0), (by rw [HP.out] at P1; exact P1), (by rw [HP.out] at HO5; exact HO5), HB5, (by rw [HP.out] at HZ5; exact HZ5)⟩
  case round =>
    clear P0 P1 HO5 HB5 HZ5
    obtain ⟨i, m, rfl, hg1, hst, P0, P1, HO, HB5, HZ⟩ := hrel
    rcases hst with ⟨rfl, rfl⟩ | ⟨rfl, rfl⟩ | ⟨rfl, rfl⟩

    · have y0 := P0.out
      have hlz : (l0.length : Int) ≤ 9223372036854775807 := by omega
      have hil : (l0.length : Int) < 12 := by omega
      go_wp2
      clear y0
      go_loopg [6, 31] l0.length (fun g2 v6 v31 wr => ∃ (k : Nat), v31 = .int .i64 k ∧ l0.length - k ≤ g2 ∧ k ≤ l0.length ∧ Aside0 (wr.cell? ⟨w4.heap.size, 0, none⟩ = some (.slice A0 l0.length c0)) ∧ Aside0 (wr.cell? ⟨w4.heap.size, 1, none⟩ = some (.slice A1 l1.length c1)) ∧ Aside0 (Kd.S (Kd.slice 3 (Kd.int .i64)) 41 wr w3.heap.size (fun k => k ≠ w4.heap.size) v6 ((List.range (0 + k)).map (rowOf l0.length))) ∧ Aside0 (Below w3.heap.size w3 wr) ∧ Aside0 (w4.heap.size < wr.heap.size))
      case atStart => exact ⟨0, rfl, by omega, by omega, P0, P1, HO, HB5, HZ⟩
      case round =>
        clear P0 P1 HO HB5 HZ
        obtain ⟨k, rfl, hg2, hk, P0, P1, HO, HB5, HZ⟩ := hrel
        by_cases hlt : k < l0.length
        · have hltz : (k : Int) < (l0.length : Int) := by omega
          have row : ([0, (k : Int)] : List Int) = rowOf l0.length (0 + k) := by unfold rowOf; rw [if_pos (by omega)]; simp
          have HROW := Aside0.mk row
          have rows : ((List.range (0 + k)).map (rowOf l0.length)) ++ [[0, (k : Int)]] = (List.range (0 + (k + 1))).map (rowOf l0.length) := by rw [row, ← Nat.add_assoc, List.range_succ, List.map_append]; rfl
          have HROWS := Aside0.mk rows
          have hxl := Aside0.mk (show ((List.range (0 + k)).map (rowOf l0.length)).length < 100 by simp; omega)
          clear row rows
          go_wp2_with (first
            | ((with_reducible refine gate_dst (N := 37) rfl ?_); refine Kd.R_lit (w0 := wr) (Kd.int .i64) wr.heap.size 3 ?hg (N := 37) ?hd (xs := ([0, (k : Int)] : List Int)) (inner := [.int .i64 0, .int .i64 k]) (ok := fun _ => True) (okp := fun _ => True) ?hr ?hp (fun _ hk => hk) trivial (Below.refl _ _) (Nat.le_refl _) (by simp) ?_; (case hd => rfl); (case hg => rfl); (case hr => first | (go_simp; done) | (go_simp; rfl)); (case hp => exact (Reps.one (show Kd.M (Kd.int .i64) _ _ _ 0 [.int .i64 0] from rfl) (Reps.one (show Kd.M (Kd.int .i64) _ _ _ (k : Int) [.int .i64 k] from rfl) (Reps.none _ _)))); intro v37 w5 ho5 hb hg_ hnew_; have n0_ := Aside0.mk (Kd.S_elder' HO.out (Kd.R_base ho5) hb); have n1_ := Aside0.mk (Kd.R_lower ho5 HB5.out.size); have n2_ := Aside0.mk (below_then HB5.out HB5.out.size hb); have n3_ := Aside0.mk ((hb.cell (World.block_lt_of_cell? _ _ P0.out)).trans P0.out); have n4_ := Aside0.mk ((hb.cell (World.block_lt_of_cell? _ _ P1.out)).trans P1.out); have n5_ := Aside0.mk (Nat.lt_of_lt_of_le HZ.out hb.size); have n6_ := Aside0.mk (fun k_ => (fun h_ => by have h1_ := Kd.R_base ho5 k_ h_; have h2_ := HZ.out; omega : v37.ownBlock = some k_ → k_ ≠ w4.heap.size)); clear HO HB5 P0 P1 HZ; have HO := n0_; have HO37 := n1_; have HB5 := n2_; have P0 := n3_; have P1 := n4_; have HZ := n5_; have HN := n6_; clear n0_ n1_ n2_ n3_ n4_ n5_ n6_ hb hg_ hnew_ ho5; obtain ⟨Ao, co, eo⟩ := Kd.R_slice HO37.out; subst eo)
            | ((with_reducible refine gate_builtin (b := .append) (xs := #[.tmp 34, .tmp 38]) rfl ?_); at_builtin; refine Kd.S_append (Kd.slice 3 (Kd.int .i64)) (w0 := w3) w3.heap.size rfl (.tmp 34) (.tmp 38) 45 41 (.slice none 0 0) 24 rfl Try.underlying45 info41 rfl (by decide) (by omega) u6 ((List.range (0 + k)).map (rowOf l0.length)) ([0, (k : Int)] : List Int) [.slice Ao ([0, (k : Int)] : List Int).length co] (fun k_ => k_ ≠ w4.heap.size) (fun k_ => some k_ = (.slice Ao ([0, (k : Int)] : List Int).length co : Value).ownBlock) rfl rfl ?aP (fun k_ hk_ => ⟨HN.out k_ hk_.symm, ((Kd.R_mono (ok' := fun k_ => ((fun _ => True)) k_ ∧ some k_ ≠ (u6 : Value).ownBlock) (Kd.R_apart' (HO37.out) (Kd.S_typed HO.out) (by decide)) (fun k_ hk => ⟨trivial, hk.2⟩)).1 k_ hk_.symm).2⟩) ?aF ?aO ?aB ?aS ?aL ?_; (case aP => exact Kd.M_row (Kd.R_tight rfl (Kd.R_mono (ok' := fun k_ => ((fun _ => True)) k_ ∧ some k_ ≠ (u6 : Value).ownBlock) (Kd.R_apart' (HO37.out) (Kd.S_typed HO.out) (by decide)) (fun k_ hk => ⟨trivial, hk.2⟩)))); (case aB => exact HB5.out); (case aF => exact (fun k_ hk_ => by have := HZ.out; omega)); (case aO => exact Kd.S_mono HO.out (fun k_ hk => ⟨hk.1, fun e_ => hk.2 e_⟩)); (case aS => exact (below_size HB5.out)); (case aL => have := hxl.out; omega); intro v39 w6 ho hb hg hat; rw [HROWS.out] at ho; have n3_ := Aside0.mk ((hg.cell P0.out (fun e_ => by have := (Kd.S_R HO.out).1 _ e_.symm; exact this.1 rfl))); have n4_ := Aside0.mk ((hg.cell P1.out (fun e_ => by have := (Kd.S_R HO.out).1 _ e_.symm; exact this.1 rfl))); have n5_ := Aside0.mk (Nat.lt_of_lt_of_le HZ.out hg.size); have n0_ := Aside0.mk (hb); have n1_ := Aside0.mk (ho); clear HB5 HO HO37 P0 P1 HZ HN; have HB5 := n0_; have HO := n1_; have P0 := n3_; have P1 := n4_; have HZ := n5_; clear n0_ n1_ n3_ n4_ n5_; clear ho hb hg hat))
          go_roundg (l0.length - (k + 1))
          case measure => omega
          case rel => exact ⟨k + 1, by first | rfl | go_num, by omega, by omega, P0, P1, HO, HB5, HZ⟩
        · have hltz : ¬ (k : Int) < (l0.length : Int) := by omega
          have ek : k = l0.length := by omega
          have HO' : Aside0 (Kd.S (Kd.slice 3 (Kd.int .i64)) 41 wr w3.heap.size (fun k => k ≠ w4.heap.size) u6 ((List.range l0.length).map (rowOf l0.length))) := by have h := HO; rw [show 0 + k = l0.length by omega] at h; exact h
          go_wp2
          go_roundg (2 - (0 + 1))
          case measure => omega
          case rel => exact ⟨0 + 1, l0.length, by first | rfl | go_num, by omega, .inr (.inl ⟨rfl, rfl⟩), P0, P1, HO', HB5, HZ⟩

    · have y0 := P1.out
      have hlz : (l1.length : Int) ≤ 9223372036854775807 := by omega
      have hil : (l1.length : Int) < 12 := by omega
      go_wp2
      clear y0
      go_loopg [6, 31] l1.length (fun g2 v6 v31 wr => ∃ (k : Nat), v31 = .int .i64 k ∧ l1.length - k ≤ g2 ∧ k ≤ l1.length ∧ Aside0 (wr.cell? ⟨w4.heap.size, 0, none⟩ = some (.slice A0 l0.length c0)) ∧ Aside0 (wr.cell? ⟨w4.heap.size, 1, none⟩ = some (.slice A1 l1.length c1)) ∧ Aside0 (Kd.S (Kd.slice 3 (Kd.int .i64)) 41 wr w3.heap.size (fun k => k ≠ w4.heap.size) v6 ((List.range (l0.length + k)).map (rowOf l0.length))) ∧ Aside0 (Below w3.heap.size w3 wr) ∧ Aside0 (w4.heap.size < wr.heap.size))
      case atStart => exact ⟨0, rfl, by omega, by omega, P0, P1, HO, HB5, HZ⟩
      case round =>
        clear P0 P1 HO HB5 HZ
        obtain ⟨k, rfl, hg2, hk, P0, P1, HO, HB5, HZ⟩ := hrel
        by_cases hlt : k < l1.length
        · have hltz : (k : Int) < (l1.length : Int) := by omega
          have row : ([1, (k : Int)] : List Int) = rowOf l0.length (l0.length + k) := by unfold rowOf; rw [if_neg (by omega)]; simp
          have HROW := Aside0.mk row
          have rows : ((List.range (l0.length + k)).map (rowOf l0.length)) ++ [[1, (k : Int)]] = (List.range (l0.length + (k + 1))).map (rowOf l0.length) := by rw [row, ← Nat.add_assoc, List.range_succ, List.map_append]; rfl
          have HROWS := Aside0.mk rows
          have hxl := Aside0.mk (show ((List.range (l0.length + k)).map (rowOf l0.length)).length < 100 by simp; omega)
          clear row rows
          go_wp2_with (first
            | ((with_reducible refine gate_dst (N := 37) rfl ?_); refine Kd.R_lit (w0 := wr) (Kd.int .i64) wr.heap.size 3 ?hg (N := 37) ?hd (xs := ([1, (k : Int)] : List Int)) (inner := [.int .i64 1, .int .i64 k]) (ok := fun _ => True) (okp := fun _ => True) ?hr ?hp (fun _ hk => hk) trivial (Below.refl _ _) (Nat.le_refl _) (by simp) ?_; (case hd => rfl); (case hg => rfl); (case hr => first | (go_simp; done) | (go_simp; rfl)); (case hp => exact (Reps.one (show Kd.M (Kd.int .i64) _ _ _ 1 [.int .i64 1] from rfl) (Reps.one (show Kd.M (Kd.int .i64) _ _ _ (k : Int) [.int .i64 k] from rfl) (Reps.none _ _)))); intro v37 w5 ho5 hb hg_ hnew_; have n0_ := Aside0.mk (Kd.S_elder' HO.out (Kd.R_base ho5) hb); have n1_ := Aside0.mk (Kd.R_lower ho5 HB5.out.size); have n2_ := Aside0.mk (below_then HB5.out HB5.out.size hb); have n3_ := Aside0.mk ((hb.cell (World.block_lt_of_cell? _ _ P0.out)).trans P0.out); have n4_ := Aside0.mk ((hb.cell (World.block_lt_of_cell? _ _ P1.out)).trans P1.out); have n5_ := Aside0.mk (Nat.lt_of_lt_of_le HZ.out hb.size); have n6_ := Aside0.mk (fun k_ => (fun h_ => by have h1_ := Kd.R_base ho5 k_ h_; have h2_ := HZ.out; omega : v37.ownBlock = some k_ → k_ ≠ w4.heap.size)); clear HO HB5 P0 P1 HZ; have HO := n0_; have HO37 := n1_; have HB5 := n2_; have P0 := n3_; have P1 := n4_; have HZ := n5_; have HN := n6_; clear n0_ n1_ n2_ n3_ n4_ n5_ n6_ hb hg_ hnew_ ho5; obtain ⟨Ao, co, eo⟩ := Kd.R_slice HO37.out; subst eo)
            | ((with_reducible refine gate_builtin (b := .append) (xs := #[.tmp 34, .tmp 38]) rfl ?_); at_builtin; refine Kd.S_append (Kd.slice 3 (Kd.int .i64)) (w0 := w3) w3.heap.size rfl (.tmp 34) (.tmp 38) 45 41 (.slice none 0 0) 24 rfl Try.underlying45 info41 rfl (by decide) (by omega) u6 ((List.range (l0.length + k)).map (rowOf l0.length)) ([1, (k : Int)] : List Int) [.slice Ao ([1, (k : Int)] : List Int).length co] (fun k_ => k_ ≠ w4.heap.size) (fun k_ => some k_ = (.slice Ao ([1, (k : Int)] : List Int).length co : Value).ownBlock) rfl rfl ?aP (fun k_ hk_ => ⟨HN.out k_ hk_.symm, ((Kd.R_mono (ok' := fun k_ => ((fun _ => True)) k_ ∧ some k_ ≠ (u6 : Value).ownBlock) (Kd.R_apart' (HO37.out) (Kd.S_typed HO.out) (by decide)) (fun k_ hk => ⟨trivial, hk.2⟩)).1 k_ hk_.symm).2⟩) ?aF ?aO ?aB ?aS ?aL ?_; (case aP => exact Kd.M_row (Kd.R_tight rfl (Kd.R_mono (ok' := fun k_ => ((fun _ => True)) k_ ∧ some k_ ≠ (u6 : Value).ownBlock) (Kd.R_apart' (HO37.out) (Kd.S_typed HO.out) (by decide)) (fun k_ hk => ⟨trivial, hk.2⟩)))); (case aB => exact HB5.out); (case aF => exact (fun k_ hk_ => by have := HZ.out; omega)); (case aO => exact Kd.S_mono HO.out (fun k_ hk => ⟨hk.1, fun e_ => hk.2 e_⟩)); (case aS => exact (below_size HB5.out)); (case aL => have := hxl.out; omega); intro v39 w6 ho hb hg hat; rw [HROWS.out] at ho; have n3_ := Aside0.mk ((hg.cell P0.out (fun e_ => by have := (Kd.S_R HO.out).1 _ e_.symm; exact this.1 rfl))); have n4_ := Aside0.mk ((hg.cell P1.out (fun e_ => by have := (Kd.S_R HO.out).1 _ e_.symm; exact this.1 rfl))); have n5_ := Aside0.mk (Nat.lt_of_lt_of_le HZ.out hg.size); have n0_ := Aside0.mk (hb); have n1_ := Aside0.mk (ho); clear HB5 HO HO37 P0 P1 HZ HN; have HB5 := n0_; have HO := n1_; have P0 := n3_; have P1 := n4_; have HZ := n5_; clear n0_ n1_ n3_ n4_ n5_; clear ho hb hg hat))
          go_roundg (l1.length - (k + 1))
          case measure => omega
          case rel => exact ⟨k + 1, by first | rfl | go_num, by omega, by omega, P0, P1, HO, HB5, HZ⟩
        · have hltz : ¬ (k : Int) < (l1.length : Int) := by omega
          have ek : k = l1.length := by omega
          have HO' : Aside0 (Kd.S (Kd.slice 3 (Kd.int .i64)) 41 wr w3.heap.size (fun k => k ≠ w4.heap.size) u6 ((List.range (l0.length + l1.length)).map (rowOf l0.length))) := by have h := HO; rw [show l0.length + k = (l0.length + l1.length) by omega] at h; exact h
          go_wp2
          go_roundg (2 - (1 + 1))
          case measure => omega
          case rel => exact ⟨1 + 1, (l0.length + l1.length), by first | rfl | go_num, by omega, .inr (.inr ⟨rfl, rfl⟩), P0, P1, HO', HB5, HZ⟩

    · obtain ⟨W, hW⟩ : ∃ W, W = wr.alloc (.cells #[.func (.func 48) #[] #[.pointer (some ⟨w.heap.size, 0, none⟩), .pointer (some ⟨w.heap.size + 1, 0, none⟩)]] 56) := ⟨_, rfl⟩
      have hBW : Below w3.heap.size w3 W := by rw [hW]; exact below_alloc HB5.out _
      have hRW : Kd.R (Kd.slice 3 (Kd.int .i64)) 41 W w3.heap.size (fun k => k < wr.heap.size) u6 ((List.range (l0.length + l1.length)).map (rowOf l0.length)) := by
        rw [hW]; exact Kd.R_below (Kd.R_mono (Kd.R_bound (Kd.S_R HO.out)) (fun k hk => hk.2.2.1)) (below_alloc (Below.refl _ _) _)
      have hs := sort_lines_all (pf := wr.heap.size) (p2 := w.heap.size) (p3 := w.heap.size + 1) (w3 := w3) (c0 := c0) (c1 := c1) hRW (Nat.le_refl _) hBW (Kd.C_below HR0.out HB.out) (Kd.C_below HR1.out HB.out)
        (by rw [hW]; simp) (Nat.lt_irrefl _) ((hBW.cell (World.block_lt_of_cell? _ _ C0.out)).trans C0.out) (World.block_lt_of_cell? _ _ C0.out) ((hBW.cell (World.block_lt_of_cell? _ _ C1.out)).trans C1.out) (World.block_lt_of_cell? _ _ C1.out) hl0 hl1 HC.out
      have HS := Aside0.mk hs
      have HW := Aside0.mk hW
      have HBW := Aside0.mk hBW
      clear hs hW hBW hRW
      go_wp2_with (first | (go_at_call 49; rw [← HW.out]; refine HS.out.mono ?_; rintro e w' ⟨rfl, hr, hb⟩; have HRr := Aside0.mk hr; have HBr := Aside0.mk hb; clear hr hb))
      go_ret2
      exact ⟨u6, rfl, Kd.R_mono (Kd.R_lower HRr.out HB.out.size) (fun _ _ => trivial), below_old HB.out (HBW.out.trans HBr.out)⟩

set_option maxHeartbeats 8000000 in
set_option maxRecDepth 100000 in
theorem order_not (A0 : Option Addr) (c0 : Nat) (l0 : List Int) (A1 : Option Addr) (c1 : Nat) (l1 : List Int) (w : World) (hr0 : Kd.C (Kd.int .i64) w A0 l0.length l0) (hc0 : l0.length ≤ c0) (hr1 : Kd.C (Kd.int .i64) w A1 l1.length l1) (hc1 : l1.length ≤ c1)
    (b0 b1 : Bool) (h0 : impl_areLines.f l0 = some b0) (h1 : impl_areLines.f l1 = some b1) (hb : (b0 && b1) = false) :
    Calls Try.prog 23 #[.slice A0 l0.length c0, .slice A1 l1.length c1] w fun e w' => e = .returned (.tuple #[.slice none 0 0, .bool false]) ∧ Below w.heap.size w w' := by
  have tok1 := True.intro
  have tok2 := True.intro
  have HR0 := Aside0.mk hr0
  have HR1 := Aside0.mk hr1
  clear hr0 hr1
  have C1 := Aside0.mk (show ((w.alloc (.cells #[.slice A0 l0.length c0] 41)).alloc (.cells #[.slice A1 l1.length c1] 41)).cell? ⟨w.heap.size + 1, 0, none⟩ = some (.slice A1 l1.length c1) by simp)
  have HB := Aside0.mk (below_alloc (below_alloc (Below.refl w.heap.size w) (.cells #[.slice A0 l0.length c0] 41)) (.cells #[.slice A1 l1.length c1] 41))
  cases b0 with
  | false =>
    go_enter Try.func23, Try.ntmps23
    go_wp2_with (first
      | (go_at_call 47; clear tok1; refine (impl_areLines.calls A0 c0 l0 false _ (Kd.C_below HR0.out HB.out) hc0 h0).mono ?_; rintro e w2 ⟨rfl, hb⟩; have HB' := Aside0.mk (below_then HB.out HB.out.size hb); clear hb C1 HB))
    go_ret2
    exact ⟨rfl, HB'.out⟩
  | true =>
    cases b1 with
    | true => cases hb
    | false =>
      clear hb
      go_enter Try.func23, Try.ntmps23
      go_wp2_with (first
        | (go_at_call 47; clear tok1; refine (impl_areLines.calls A0 c0 l0 true _ (Kd.C_below HR0.out HB.out) hc0 h0).mono ?_; rintro e w2 ⟨rfl, hb⟩; have C1' := Aside0.mk ((hb.cell (World.block_lt_of_cell? _ _ C1.out)).trans C1.out); have HB' := Aside0.mk (below_then HB.out HB.out.size hb); clear hb C1 HB; have x1 := C1'.out)
        | (go_at_call 47; clear tok2 x1; refine (impl_areLines.calls A1 c1 l1 false _ (Kd.C_below HR1.out HB'.out) hc1 h1).mono ?_; rintro e w3 ⟨rfl, hb⟩; have HB := Aside0.mk (below_then HB'.out HB'.out.size hb); clear hb C1' HB'))
      go_ret2
      exact ⟨rfl, HB.out⟩

def linesB (l : List Int) : Bool := decide (l.length < 12) && l.all fun x => decide (0 ≤ x ∧ x ≤ 100)
theorem areLines_eq (l : List Int) : impl_areLines.f l = some (linesB l) := by
  unfold impl_areLines.f impl_areWithin.f linesB
  by_cases h : l.length < 12
  · rw [if_pos (by omega), decide_eq_true h]
    simp only [Option.bind_some, Bool.true_and, List.not_any_eq_all_not, Bool.not_not]
  · rw [if_neg (by omega), decide_eq_false h]; rfl
theorem linesB_len {l : List Int} (h : linesB l = true) : l.length < 12 := by
  unfold linesB at h
  simp only [Bool.and_eq_true, decide_eq_true_eq] at h
  exact h.1
theorem linesB_all {l : List Int} (h : linesB l = true) : ∀ x ∈ l, 0 ≤ x ∧ x ≤ 100 := by
  unfold linesB at h
  simp only [Bool.and_eq_true, decide_eq_true_eq, List.all_eq_true] at h
  exact h.2
theorem cst_bounds {l0 l1 : List Int} (h0 : linesB l0 = true) (h1 : linesB l1 = true) (j : Nat) : 0 ≤ cstOf l0 l1 j ∧ cstOf l0 l1 j ≤ 100 := by
  unfold cstOf
  rw [List.getD_eq_getElem?_getD]
  cases h : (l0 ++ l1)[j]? with
  | none => simp
  | some x =>
    have hm := List.mem_of_getElem? h
    rcases List.mem_append.mp hm with hm | hm
    · exact linesB_all h0 x hm
    · exact linesB_all h1 x hm

def impl_OrderByLines.f (l0 l1 : List Int) : Option (List (List Int) × Bool) := some (if (linesB l0 && linesB l1) = true then (ordR l0 l1 100, true) else ([], false))
theorem impl_OrderByLines.calls (A0 : Option Addr) (c0 : Nat) (l0 : List Int) (A1 : Option Addr) (c1 : Nat) (l1 : List Int) (r1 : List (List Int)) (r2 : Bool) (w : World) (hr0 : Kd.C (Kd.int .i64) w A0 l0.length l0) (hc0 : l0.length ≤ c0) (hr1 : Kd.C (Kd.int .i64) w A1 l1.length l1) (hc1 : l1.length ≤ c1) (h : impl_OrderByLines.f l0 l1 = some (r1, r2)) :
    Calls Try.prog 23 #[.slice A0 l0.length c0, .slice A1 l1.length c1] w fun e w' => ∃ v0_ : Value, e = .returned (.tuple #[v0_, .bool r2]) ∧ Kd.R (Kd.slice 3 (Kd.int .i64)) 41 w' w.heap.size (fun _ => True) v0_ r1 ∧ Below w.heap.size w w' := by
  unfold impl_OrderByLines.f at h
  replace h := Option.some.inj h
  by_cases hl : (linesB l0 && linesB l1) = true
  · rw [if_pos hl] at h
    cases h
    simp only [Bool.and_eq_true] at hl
    rw [ordR_eq]
    exact order_any A0 c0 l0 A1 c1 l1 w hr0 hc0 hr1 hc1 (by rw [areLines_eq, hl.1]) (by rw [areLines_eq, hl.2]) (linesB_len hl.1) (linesB_len hl.2) (cst_bounds hl.1 hl.2)
  · rw [if_neg hl] at h
    cases h
    refine (order_not A0 c0 l0 A1 c1 l1 w hr0 hc0 hr1 hc1 _ _ (areLines_eq l0) (areLines_eq l1) (by simpa using hl)).mono ?_
    rintro e w' ⟨rfl, hb⟩
    exact ⟨_, rfl, Kd.R_nil _ _ _ _ _, hb⟩
end Go.Proofs.Ytkoplphcdkmilaa.All
end
section
namespace Go.Proofs.Ytkoplphcdkmilaa.All
open Go.RowKit Go.Proofs.YtkoplphcdkmilaaW.PrintWords Go.Proofs.YtkoplphcdkmilaaW.PrintLast Go.Proofs.YtkoplphcdkmilaaW.PrintMore
set_option linter.unusedVariables false

def stepL (l0 l1 : List Int) (s : Int × Int × Int) (j : Nat) : Int × Int × Int :=
  if j < l0.length then (s.1 + cstOf l0 l1 j * s.2.2, s.2.1 + 1, s.2.2) else (s.1 + cstOf l0 l1 j * s.2.1, s.2.1, s.2.2 + 1)
def sumL (l0 l1 : List Int) (js : List Nat) : Int × Int × Int := js.foldl (stepL l0 l1) (0, 1, 1)

theorem sumL_succ (l0 l1 : List Int) (js : List Nat) (i : Nat) (h : i < js.length) : sumL l0 l1 (js.take (i + 1)) = stepL l0 l1 (sumL l0 l1 (js.take i)) js[i] := by
  unfold sumL
  rw [List.take_succ_eq_append_getElem h, List.foldl_append]; rfl

theorem sumL_bound {l0 l1 : List Int} {js : List Nat} (hc : ∀ j, 0 ≤ cstOf l0 l1 j ∧ cstOf l0 l1 j ≤ 100) (hn : js.length < 30) : ∀ i, i ≤ js.length →
    0 ≤ (sumL l0 l1 (js.take i)).1 ∧ (sumL l0 l1 (js.take i)).1 ≤ 3000 * i ∧ 1 ≤ (sumL l0 l1 (js.take i)).2.1 ∧ (sumL l0 l1 (js.take i)).2.1 ≤ 1 + i ∧ 1 ≤ (sumL l0 l1 (js.take i)).2.2 ∧ (sumL l0 l1 (js.take i)).2.2 ≤ 1 + i
  | 0, _ => by simp [sumL]
  | i + 1, h => by
    obtain ⟨h1, h2, h3, h4, h5, h6⟩ := sumL_bound hc hn i (by omega)
    rw [sumL_succ l0 l1 js i (by omega)]
    generalize sumL l0 l1 (js.take i) = s at *
    obtain ⟨c1, c2⟩ := hc js[i]
    unfold stepL
    generalize cstOf l0 l1 js[i] = c at *
    split
    · have a1 : 0 ≤ c * s.2.2 := Int.mul_nonneg c1 (by omega)
      have a2 : c * s.2.2 ≤ 100 * 30 := Int.mul_le_mul c2 (by omega) (by omega) (by omega)
      simp only
      omega
    · have a1 : 0 ≤ c * s.2.1 := Int.mul_nonneg c1 (by omega)
      have a2 : c * s.2.1 ≤ 100 * 30 := Int.mul_le_mul c2 (by omega) (by omega) (by omega)
      simp only
      omega

def wayOf (p j : Nat) : Int := if j < p then 0 else 1
def numOf (p j : Nat) : Nat := if j < p then j else j - p
theorem rowOf_eq (p j : Nat) : rowOf p j = [wayOf p j, (numOf p j : Int)] := by
  unfold rowOf wayOf numOf
  by_cases h : j < p
  · rw [if_pos h, if_pos h, if_pos h]
  · rw [if_neg h, if_neg h, if_neg h]

theorem line_at {w : World} {A : Option Addr} {n p : Nat} {js : List Nat} (h : Kd.C (Kd.slice 3 (Kd.int .i64)) w A n (js.map (rowOf p))) (hn : n = js.length) (i : Nat) (hi : i < js.length) :
    ∃ ad b c, A = some ad ∧ w.cell? (ad.add i) = some (.slice (some b) 2 c) ∧ w.cell? b = some (.int .i64 (wayOf p js[i])) ∧ w.cell? (b.add 1) = some (.int .i64 (numOf p js[i])) := by
  obtain ⟨ad, A0, c0, e, h1, h2, h3⟩ := at_L4 h (i : Int) (by omega) (by omega)
  have hr : rd_L4 (js.map (rowOf p)) (i : Int) = [wayOf p js[i], (numOf p js[i] : Int)] := by
    rw [← rowOf_eq]; unfold rd_L4; simp [hi]
  rw [hr] at h1 h2 h3
  obtain ⟨a, ha, hx⟩ := Kd.at_int h3 0 (by simp) (by simp)
  obtain ⟨a', ha', hy⟩ := Kd.at_int h3 1 (by simp) (by simp)
  subst ha
  cases ha'
  rw [show ((0 : Int)).toNat = 0 from rfl, Addr.add_zero'] at hx
  exact ⟨ad, a, c0, e, h1, hx, hy⟩
end Go.Proofs.Ytkoplphcdkmilaa.All
end
section
namespace Go.Proofs.Ytkoplphcdkmilaa.All
open Go.Shelf Go.Lib Go.Sort Go.RowKit Go.Proofs.YtkoplphcdkmilaaW.PrintWords Go.Proofs.YtkoplphcdkmilaaW.PrintLast Go.Proofs.YtkoplphcdkmilaaW.PrintMore GSteps
set_option linter.unusedVariables false
set_option linter.unusedSimpArgs false

theorem al_frozen {W : World} {a : Addr} {v : Value} {o : Obj} (h : W.cell? a = some v) : (W.alloc o).frozen? a = W.frozen? a := by
  rw [alloc_eq_grow, frozen?_grow _ _ _ (by exact World.block_lt_of_cell? W _ h)]

set_option maxHeartbeats 8000000 in
set_option maxRecDepth 100000 in
theorem least_not (A0 : Option Addr) (c0 : Nat) (l0 : List Int) (A1 : Option Addr) (c1 : Nat) (l1 : List Int) (w : World) (hr0 : Kd.C (Kd.int .i64) w A0 l0.length l0) (hc0 : l0.length ≤ c0) (hr1 : Kd.C (Kd.int .i64) w A1 l1.length l1) (hc1 : l1.length ≤ c1)
    (h : impl_OrderByLines.f l0 l1 = some ([], false)) :
    Calls Try.prog 21 #[.slice A0 l0.length c0, .slice A1 l1.length c1] w fun e w' => e = .returned (.tuple #[.int .i64 0, .bool false]) ∧ Below w.heap.size w w' := by
  have HS := Aside0.mk (impl_OrderByLines.calls A0 c0 l0 A1 c1 l1 _ _ w hr0 hc0 hr1 hc1 h)
  clear hr0 hr1
  go_enter Try.func21, Try.ntmps21
  go_wp2_with (first | (go_at_call 23; refine HS.out.mono ?_; rintro e w1 ⟨v1, rfl, hR, hB⟩; have HB := Aside0.mk hB; clear hR hB))
  go_ret2
  exact ⟨rfl, HB.out⟩

set_option maxHeartbeats 8000000 in
set_option maxRecDepth 100000 in
theorem least_any (A0 : Option Addr) (c0 : Nat) (l0 : List Int) (A1 : Option Addr) (c1 : Nat) (l1 : List Int) (js : List Nat) (w : World) (hr0 : Kd.C (Kd.int .i64) w A0 l0.length l0) (hc0 : l0.length ≤ c0) (hr1 : Kd.C (Kd.int .i64) w A1 l1.length l1) (hc1 : l1.length ≤ c1)
    (h : impl_OrderByLines.f l0 l1 = some (js.map (rowOf l0.length), true)) (hjs : ∀ j, j ∈ js → j < l0.length + l1.length) (hlen : js.length < 30) (hl0 : l0.length < 12) (hl1 : l1.length < 12) (hc : ∀ j, 0 ≤ cstOf l0 l1 j ∧ cstOf l0 l1 j ≤ 100) :
    Calls Try.prog 21 #[.slice A0 l0.length c0, .slice A1 l1.length c1] w fun e w' => e = .returned (.tuple #[.int .i64 (sumL l0 l1 js).1, .bool true]) ∧ Below w.heap.size w w' := by
  have HS := Aside0.mk (impl_OrderByLines.calls A0 c0 l0 A1 c1 l1 _ _ w hr0 hc0 hr1 hc1 h)
  have HR0 := Aside0.mk hr0
  have HR1 := Aside0.mk hr1
  have HC := Aside0.mk hc
  have HJ := Aside0.mk hjs
  clear hr0 hr1 hc hjs h
  have hlz : (js.length : Int) < 30 := by omega
  have hl : (js.map (rowOf l0.length)).length = js.length := by simp
  have hmx : (js.length : Int) ≤ 9223372036854775807 := by omega
  go_enter Try.func21, Try.ntmps21
  go_wp2_with (first | (go_at_call 23; refine HS.out.mono ?_; rintro e w1 ⟨v1, rfl, hR, hB⟩; obtain ⟨AO, cO, rfl, hcO, hCO⟩ := Kd.R_reads hR; rw [hl] at hcO hCO; rw [hl]; have HB := Aside0.mk hB; have HO := Aside0.mk hCO; clear hR hB hCO HS))
  have Z0 := Aside0.mk (show (w1.alloc (.cells #[.int .i64 1, .int .i64 1] 74)).cell? ⟨w1.heap.size, 0, none⟩ = some (.int .i64 1) by simp)
  have Z1 := Aside0.mk (show (w1.alloc (.cells #[.int .i64 1, .int .i64 1] 74)).cell? ⟨w1.heap.size, 1, none⟩ = some (.int .i64 1) by simp)
  have F0 := Aside0.mk (show (w1.alloc (.cells #[.int .i64 1, .int .i64 1] 74)).frozen? ⟨w1.heap.size, 0, none⟩ = false by simp)
  have F1 := Aside0.mk (show (w1.alloc (.cells #[.int .i64 1, .int .i64 1] 74)).frozen? ⟨w1.heap.size, 1, none⟩ = false by simp)
  have B1 := Aside0.mk (below_alloc (Below.refl w1.heap.size w1) (.cells #[.int .i64 1, .int .i64 1] 74))
  obtain ⟨pz, hpz⟩ : ∃ p, p = w1.heap.size := ⟨_, rfl⟩
  have HP := Aside0.mk hpz
  rw [← hpz] at Z0 Z1 F0 F1
  clear hpz
  go_loopg [8, 24] js.length (fun g1 v8 v24 wr => ∃ (i : Nat), v24 = .int .i64 i ∧ js.length - i ≤ g1 ∧ i ≤ js.length ∧ v8 = .int .i64 (sumL l0 l1 (js.take i)).1 ∧ Aside0 (wr.cell? ⟨w1.heap.size, 0, none⟩ = some (.int .i64 (sumL l0 l1 (js.take i)).2.1)) ∧ Aside0 (wr.cell? ⟨w1.heap.size, 1, none⟩ = some (.int .i64 (sumL l0 l1 (js.take i)).2.2)) ∧ Aside0 (wr.frozen? ⟨w1.heap.size, 0, none⟩ = false) ∧ Aside0 (wr.frozen? ⟨w1.heap.size, 1, none⟩ = false) ∧ Aside0 (Below w1.heap.size w1 wr))
  case atStart => exact ⟨0, rfl, by omega, by omega, rfl, (by rw [HP.out] at Z0; exact Z0), (by rw [HP.out] at Z1; exact Z1), (by rw [HP.out] at F0; exact F0), (by rw [HP.out] at F1; exact F1), B1⟩
  case round =>
    clear Z0 Z1 F0 F1 B1
    obtain ⟨i, rfl, hg1, hi, rfl, Z0, Z1, F0, F1, B1⟩ := hrel
    by_cases hlt : i < js.length
    · have hltz : (i : Int) < (js.length : Int) := by omega
      have hiz : (0 : Int) ≤ (i : Int) := by omega
      obtain ⟨s1, s2, s3, s4, s5, s6⟩ := sumL_bound (l0 := l0) (l1 := l1) HC.out hlen i hi
      have hs := sumL_succ l0 l1 js i hlt
      have hS := Aside0.mk hs
      clear hs
      obtain ⟨ad, b, c, hAO, x1, x2, x3⟩ := line_at (Kd.C_below HO.out B1.out) rfl i hlt
      subst hAO
      have hjm := HJ.out js[i] (List.getElem_mem hlt)
      have hcc := HC.out js[i]
      obtain ⟨j, hj⟩ : ∃ j, j = js[i] := ⟨_, rfl⟩
      rw [← hj] at x2 x3 hjm hcc
      have hJI := Aside0.mk hj
      clear hj
      obtain ⟨s, hs⟩ : ∃ s, s = sumL l0 l1 (js.take i) := ⟨_, rfl⟩
      rw [← hs] at Z0 Z1 s1 s2 s3 s4 s5 s6 hS ⊢
      clear hs
      obtain ⟨sa, sc, sr⟩ := s
      simp only at Z0 Z1 s1 s2 s3 s4 s5 s6 ⊢
      obtain ⟨cv, hcv⟩ : ∃ c, c = cstOf l0 l1 j := ⟨_, rfl⟩
      have HCV := Aside0.mk hcv
      rw [← hcv] at hcc
      obtain ⟨hc1', hc2'⟩ := hcc
      by_cases hw : j < l0.length
      · have hjz : (j : Int) < (l0.length : Int) := by omega
        have hj0 : (0 : Int) ≤ (j : Int) := by omega
        rw [show wayOf l0.length j = 0 by unfold wayOf; rw [if_pos hw]] at x2
        rw [show numOf l0.length j = j by unfold numOf; rw [if_pos hw]] at x3
        obtain ⟨a, ha, hx⟩ := Kd.at_int (Kd.C_below HR0.out (below_then HB.out HB.out.size B1.out)) j hj0 hjz
        subst ha
        rw [show rd l0 (j : Int) = cv by rw [hcv]; unfold cstOf rd; simp [List.getElem?_append, hw], Int.toNat_natCast] at hx
        have m1 : 0 ≤ cv * sr := Int.mul_nonneg hc1' (by omega)
        have m2 : cv * sr ≤ 100 * 30 := Int.mul_le_mul hc2' (by omega) (by omega) (by omega)
        obtain ⟨pr, hpr⟩ : ∃ p, p = cv * sr := ⟨_, rfl⟩
        rw [← hpr] at m1 m2
        have wp : IntKind.i64.wrap pr = pr := by rw [IntKind.wrap_i64]; omega
        have ws : IntKind.i64.wrap (sa + pr) = sa + pr := by rw [IntKind.wrap_i64]; omega
        have wc : IntKind.i64.wrap (sc + 1) = sc + 1 := by rw [IntKind.wrap_i64]; omega
        have NEW := Aside0.mk (show sumL l0 l1 (js.take (i + 1)) = (sa + pr, sc + 1, sr) by rw [hS.out, ← hJI.out]; unfold stepL; rw [if_pos hw, ← hcv, hpr])
        clear hcv hS HCV 
        have y2 : (wr.alloc (.cells #[.slice (some a) l0.length c0, .slice A1 l1.length c1] 41)).cell? b = some (.int .i64 0) := al_cell _ x2
        have y3 : (wr.alloc (.cells #[.slice (some a) l0.length c0, .slice A1 l1.length c1] 41)).cell? (b.add 1) = some (.int .i64 j) := al_cell _ x3
        have yx : (wr.alloc (.cells #[.slice (some a) l0.length c0, .slice A1 l1.length c1] 41)).cell? (a.add j) = some (.int .i64 cv) := al_cell _ hx
        have y0 : (wr.alloc (.cells #[.slice (some a) l0.length c0, .slice A1 l1.length c1] 41)).cell? ⟨w1.heap.size, 0, none⟩ = some (.int .i64 sc) := al_cell _ Z0.out
        have y1 : (wr.alloc (.cells #[.slice (some a) l0.length c0, .slice A1 l1.length c1] 41)).cell? ⟨w1.heap.size, 1, none⟩ = some (.int .i64 sr) := al_cell _ Z1.out
        have B2 := Aside0.mk (below_alloc B1.out (.cells #[.slice (some a) l0.length c0, .slice A1 l1.length c1] 41))
        have G0 := Aside0.mk (show (wr.alloc (.cells #[.slice (some a) l0.length c0, .slice A1 l1.length c1] 41)).frozen? ⟨w1.heap.size, 0, none⟩ = false from by rw [al_frozen Z0.out]; exact F0.out)
        have G1 := Aside0.mk (show (wr.alloc (.cells #[.slice (some a) l0.length c0, .slice A1 l1.length c1] 41)).frozen? ⟨w1.heap.size, 1, none⟩ = false from by rw [al_frozen Z1.out]; exact F1.out)
        clear Z0 Z1 B1 F0 F1 hx x3
        have wm : IntKind.i64.wrap (cv * sr) = pr := by rw [← hpr]; exact wp
        clear hpr
        go_wp2_with fail
        clear x1 x2
        generalize wr.alloc (.cells #[.slice (some a) l0.length c0, .slice A1 l1.length c1] 41) = wq at y2 y3 yx y0 y1 B2 G0 G1 ⊢
        have g0 := G0.out
        have g1 := G1.out
        simp only [Nat.reduceMul, Nat.reduceEqDiff, Go.Addr.add, ↓reduceIte] at y3
        go_region
        have E0 := Aside0.mk (show (wq.drew.setCell ⟨w1.heap.size, 0, none⟩ (.int .i64 (sc + 1))).cell? ⟨w1.heap.size, 0, none⟩ = some (.int .i64 (sc + 1)) from World.cell?_setCell_same' _ _ _ (by rw [show wq.drew.cell? ⟨w1.heap.size, 0, none⟩ = _ from y0]; rfl))
        have E1 := Aside0.mk (show (wq.drew.setCell ⟨w1.heap.size, 0, none⟩ (.int .i64 (sc + 1))).cell? ⟨w1.heap.size, 1, none⟩ = some (.int .i64 sr) from (World.cell?_setCell_other _ _ _ _ (by intro e; simp at e)).trans y1)
        have H0 := Aside0.mk (show (wq.drew.setCell ⟨w1.heap.size, 0, none⟩ (.int .i64 (sc + 1))).frozen? ⟨w1.heap.size, 0, none⟩ = false by rw [World.frozen?_setCell]; exact g0)
        have H1 := Aside0.mk (show (wq.drew.setCell ⟨w1.heap.size, 0, none⟩ (.int .i64 (sc + 1))).frozen? ⟨w1.heap.size, 1, none⟩ = false by rw [World.frozen?_setCell]; exact g1)
        have B3 := Aside0.mk (show Below w1.heap.size w1 (wq.drew.setCell ⟨w1.heap.size, 0, none⟩ (.int .i64 (sc + 1))) from (below_drew1 B2.out).setCell (Nat.le_refl _) _)
        go_wp2
        go_roundg (js.length - (i + 1))
        case measure => omega
        case rel => exact ⟨i + 1, by first | rfl | go_num, by omega, by omega, (by rw [NEW.out]), ⟨by rw [NEW.out]; exact E0.out⟩, ⟨by rw [NEW.out]; exact E1.out⟩, H0, H1, B3⟩
      · obtain ⟨jq, hjq⟩ : ∃ q, q = j - l0.length := ⟨_, rfl⟩
        have hjz : (jq : Int) < (l1.length : Int) := by omega
        have hj0 : (0 : Int) ≤ (jq : Int) := by omega
        rw [show wayOf l0.length j = 1 by unfold wayOf; rw [if_neg hw]] at x2
        rw [show numOf l0.length j = jq by unfold numOf; rw [if_neg hw, hjq]] at x3
        obtain ⟨a, ha, hx⟩ := Kd.at_int (Kd.C_below HR1.out (below_then HB.out HB.out.size B1.out)) (jq : Int) hj0 hjz
        subst ha
        rw [show rd l1 (jq : Int) = cv by rw [hcv]; unfold cstOf rd; simp [List.getElem?_append, hw, hjq], Int.toNat_natCast] at hx
        have m1 : 0 ≤ cv * sc := Int.mul_nonneg hc1' (by omega)
        have m2 : cv * sc ≤ 100 * 30 := Int.mul_le_mul hc2' (by omega) (by omega) (by omega)
        obtain ⟨pr, hpr⟩ : ∃ p, p = cv * sc := ⟨_, rfl⟩
        rw [← hpr] at m1 m2
        have wp : IntKind.i64.wrap pr = pr := by rw [IntKind.wrap_i64]; omega
        have ws : IntKind.i64.wrap (sa + pr) = sa + pr := by rw [IntKind.wrap_i64]; omega
        have wc : IntKind.i64.wrap (sr + 1) = sr + 1 := by rw [IntKind.wrap_i64]; omega
        have NEW := Aside0.mk (show sumL l0 l1 (js.take (i + 1)) = (sa + pr, sc, sr + 1) by rw [hS.out, ← hJI.out]; unfold stepL; rw [if_neg hw, ← hcv, hpr])
        clear hcv hS HCV hjq
        have y2 : (wr.alloc (.cells #[.slice A0 l0.length c0, .slice (some a) l1.length c1] 41)).cell? b = some (.int .i64 1) := al_cell _ x2
        have y3 : (wr.alloc (.cells #[.slice A0 l0.length c0, .slice (some a) l1.length c1] 41)).cell? (b.add 1) = some (.int .i64 jq) := al_cell _ x3
        have yx : (wr.alloc (.cells #[.slice A0 l0.length c0, .slice (some a) l1.length c1] 41)).cell? (a.add jq) = some (.int .i64 cv) := al_cell _ hx
        have y0 : (wr.alloc (.cells #[.slice A0 l0.length c0, .slice (some a) l1.length c1] 41)).cell? ⟨w1.heap.size, 0, none⟩ = some (.int .i64 sc) := al_cell _ Z0.out
        have y1 : (wr.alloc (.cells #[.slice A0 l0.length c0, .slice (some a) l1.length c1] 41)).cell? ⟨w1.heap.size, 1, none⟩ = some (.int .i64 sr) := al_cell _ Z1.out
        have B2 := Aside0.mk (below_alloc B1.out (.cells #[.slice A0 l0.length c0, .slice (some a) l1.length c1] 41))
        have G0 := Aside0.mk (show (wr.alloc (.cells #[.slice A0 l0.length c0, .slice (some a) l1.length c1] 41)).frozen? ⟨w1.heap.size, 0, none⟩ = false from by rw [al_frozen Z0.out]; exact F0.out)
        have G1 := Aside0.mk (show (wr.alloc (.cells #[.slice A0 l0.length c0, .slice (some a) l1.length c1] 41)).frozen? ⟨w1.heap.size, 1, none⟩ = false from by rw [al_frozen Z1.out]; exact F1.out)
        clear Z0 Z1 B1 F0 F1 hx x3
        have wm : IntKind.i64.wrap (cv * sc) = pr := by rw [← hpr]; exact wp
        clear hpr
        go_wp2_with fail
        clear x1 x2
        generalize wr.alloc (.cells #[.slice A0 l0.length c0, .slice (some a) l1.length c1] 41) = wq at y2 y3 yx y0 y1 B2 G0 G1 ⊢
        have g0 := G0.out
        have g1 := G1.out
        simp only [Nat.reduceMul, Nat.reduceEqDiff, Go.Addr.add, ↓reduceIte] at y3
        go_region
        have E0 := Aside0.mk (show (wq.drew.setCell ⟨w1.heap.size, 1, none⟩ (.int .i64 (sr + 1))).cell? ⟨w1.heap.size, 0, none⟩ = some (.int .i64 sc) from (World.cell?_setCell_other _ _ _ _ (by intro e; simp at e)).trans y0)
        have E1 := Aside0.mk (show (wq.drew.setCell ⟨w1.heap.size, 1, none⟩ (.int .i64 (sr + 1))).cell? ⟨w1.heap.size, 1, none⟩ = some (.int .i64 (sr + 1)) from World.cell?_setCell_same' _ _ _ (by rw [show wq.drew.cell? ⟨w1.heap.size, 1, none⟩ = _ from y1]; rfl))
        have H0 := Aside0.mk (show (wq.drew.setCell ⟨w1.heap.size, 1, none⟩ (.int .i64 (sr + 1))).frozen? ⟨w1.heap.size, 0, none⟩ = false by rw [World.frozen?_setCell]; exact g0)
        have H1 := Aside0.mk (show (wq.drew.setCell ⟨w1.heap.size, 1, none⟩ (.int .i64 (sr + 1))).frozen? ⟨w1.heap.size, 1, none⟩ = false by rw [World.frozen?_setCell]; exact g1)
        have B3 := Aside0.mk (show Below w1.heap.size w1 (wq.drew.setCell ⟨w1.heap.size, 1, none⟩ (.int .i64 (sr + 1))) from (below_drew1 B2.out).setCell (Nat.le_refl _) _)
        go_wp2
        go_roundg (js.length - (i + 1))
        case measure => omega
        case rel => exact ⟨i + 1, by first | rfl | go_num, by omega, by omega, (by rw [NEW.out]), ⟨by rw [NEW.out]; exact E0.out⟩, ⟨by rw [NEW.out]; exact E1.out⟩, H0, H1, B3⟩
    · have hltz : ¬ (i : Int) < (js.length : Int) := by omega
      have ei : i = js.length := by omega
      have ET := Aside0.mk (show js.take i = js by rw [ei, List.take_length])
      clear ei
      go_wp2
      go_ret2
      exact ⟨by first | (rw [ET.out]; done) | (rw [ET.out]; rfl), below_then HB.out HB.out.size B1.out⟩

def impl_LeastByLines.f (l0 l1 : List Int) : Option (Int × Bool) := some (if (linesB l0 && linesB l1) = true then ((sumL l0 l1 (ordI (cstOf l0 l1) (l0.length + l1.length) 100)).1, true) else (0, false))
theorem impl_LeastByLines.calls (A0 : Option Addr) (c0 : Nat) (l0 : List Int) (A1 : Option Addr) (c1 : Nat) (l1 : List Int) (r1 : Int) (r2 : Bool) (w : World) (hr0 : Kd.C (Kd.int .i64) w A0 l0.length l0) (hc0 : l0.length ≤ c0) (hr1 : Kd.C (Kd.int .i64) w A1 l1.length l1) (hc1 : l1.length ≤ c1) (h : impl_LeastByLines.f l0 l1 = some (r1, r2)) :
    Calls Try.prog 21 #[.slice A0 l0.length c0, .slice A1 l1.length c1] w fun e w' => e = .returned (.tuple #[.int .i64 r1, .bool r2]) ∧ Below w.heap.size w w' := by
  unfold impl_LeastByLines.f at h
  replace h := Option.some.inj h
  by_cases hl : (linesB l0 && linesB l1) = true
  · rw [if_pos hl] at h
    cases h
    have hl' := hl
    simp only [Bool.and_eq_true] at hl'
    have h0 := linesB_len hl'.1
    have h1 := linesB_len hl'.2
    have hp := (ordI_perm (n := l0.length + l1.length) (fun j _ => cst_bounds hl'.1 hl'.2 j)).length_eq
    refine least_any A0 c0 l0 A1 c1 l1 _ w hr0 hc0 hr1 hc1 ?_ (fun j hj => (mem_ordI hj).1) ?_ h0 h1 (cst_bounds hl'.1 hl'.2)
    · unfold impl_OrderByLines.f
      rw [if_pos hl, ordR_eq]
    · have e : (ordI (cstOf l0 l1) (l0.length + l1.length) 100).length = l0.length + l1.length := by simpa using hp
      omega
  · rw [if_neg hl] at h
    cases h
    exact least_not A0 c0 l0 A1 c1 l1 w hr0 hc0 hr1 hc1 (by unfold impl_OrderByLines.f; rw [if_neg hl])
end Go.Proofs.Ytkoplphcdkmilaa.All
end
