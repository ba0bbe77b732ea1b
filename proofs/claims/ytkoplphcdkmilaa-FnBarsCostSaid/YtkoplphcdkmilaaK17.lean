/- Texts of this claim joined, in the order in which they build: GSLeast. -/
import Derived.Test.YtkoplphcdkmilaaK16
section
namespace Go.Proofs.Ytkoplphcdkmilaa.All
open Go.Proofs.Ytkoplphcdkmilaa.GSteps Go.RowKit Go.Proofs.YtkoplphcdkmilaaW.PrintWords Go.Proofs.YtkoplphcdkmilaaW.PrintLast Go.Proofs.YtkoplphcdkmilaaW.PrintMore Go.Shelf Go.Maps Go.Joins Go.Proofs.Ytkoplphcdkmilaa.PEv Go.Proofs.Ytkoplphcdkmilaa.PCount Go.Proofs.Ytkoplphcdkmilaa.GBar Go.Proofs.Ytkoplphcdkmilaa.PImpl Go.Proofs.Ytkoplphcdkmilaa.GTab Go.Proofs.Ytkoplphcdkmilaa.PEat Go.Proofs.Ytkoplphcdkmilaa.PEatEv
set_option linter.unusedVariables false
set_option linter.unusedSimpArgs false

theorem eat_cell {a b T B : Nat} {W : World} (h : Tab (QE b T B W) 45 (a + 1) (fun _ => b + 1) (a + 1) W T) (ha : 1 ≤ a) (hb : 1 ≤ b) :
    ∃ G C, W.cell? ⟨T, a, none⟩ = some (.slice (some ⟨G, 0, none⟩) (b + 1) (b + 1)) ∧ W.cell? ⟨G, b, none⟩ = some (.slice (some ⟨C, 0, none⟩) (a * b + 1) (a * b + 1)) ∧ Row 3 (a * b + 1) (fun _ => True) (fun k => .int .i64 (E a b k)) W C := by
  obtain ⟨G, c1, h1⟩ := h.at a ha (by omega) (by omega)
  obtain ⟨C, c2, h2⟩ := h1.2.at b hb (by omega) (by omega)
  exact ⟨G, C, c1, c2, h2.2⟩
theorem box_below {w w' w'' : World} {n : Nat} {u v : Value} (h : w'.cell? ⟨n, 0, none⟩ = some u ∧ w'.cell? ⟨n, 1, none⟩ = some v ∧ Below w.heap.size w w') (hb : Below w'.heap.size w' w'') :
    w''.cell? ⟨n, 0, none⟩ = some u ∧ w''.cell? ⟨n, 1, none⟩ = some v ∧ Below w.heap.size w w'' :=
  ⟨cell_grown h.1 (grown_of_below hb none) (by simp), cell_grown h.2.1 (grown_of_below hb none) (by simp), below_then h.2.2 h.2.2.size hb⟩
def spec_LeastToEat.f (a0_0 : Int) (a0_1 : Int) (a1 : Int) : Option (Int × Bool) := some (if okB a0_0 a0_1 ∧ 0 ≤ a1 ∧ a1 ≤ a0_0 * a0_1 then (E a0_0.toNat a0_1.toNat a1.toNat, true) else (0, false))
set_option maxHeartbeats 4000000 in
set_option maxRecDepth 100000 in
theorem spec_LeastToEat.calls (a0_0 : Int) (a0_1 : Int) (a1 : Int) (r1 : Int) (r2 : Bool) (w : World) (h : spec_LeastToEat.f a0_0 a0_1 a1 = some (r1, r2)) :
    Calls Try.prog 19 #[.agg #[.int .i64 a0_0, .int .i64 a0_1], .int .i64 a1] w fun e w' => e = .returned (.tuple #[.int .i64 r1, .bool r2]) ∧ Below w.heap.size w w' := by
  have hu25 := Try.underlying25
  have hib := fun w => spec_brSome.calls a0_0 a0_1 a1 _ w (brSome_eq a0_0 a0_1 a1)
  unfold spec_LeastToEat.f at h
  replace h := Option.some.inj h
  by_cases hok : okB a0_0 a0_1 ∧ 0 ≤ a1 ∧ a1 ≤ a0_0 * a0_1
  · rw [decide_eq_true hok] at hib
    rw [if_pos hok] at h
    obtain ⟨rfl, rfl⟩ := Prod.mk.inj h
    obtain ⟨hok, hs0, hs1⟩ := hok
    obtain ⟨a, rfl⟩ := Int.eq_ofNat_of_zero_le (a := a0_0) (by have := hok.1; omega)
    obtain ⟨b, rfl⟩ := Int.eq_ofNat_of_zero_le (a := a0_1) (by have := hok.2; omega)
    obtain ⟨s, rfl⟩ := Int.eq_ofNat_of_zero_le hs0
    simp only [Int.toNat_natCast]
    have ha : 1 ≤ a := by have := hok.1; omega
    have hb : 1 ≤ b := by have := hok.2; omega
    rw [← Int.natCast_mul] at hs1
    have heat := fun W => brEat_any a b hok W
    have hbn : ∀ (W : World), W.heap.size < (W.alloc (.cells #[.int .i64 a, .int .i64 b] 25)).heap.size := fun W => by simp
    have HBN := Aside0.mk hbn
    have b1 : (a : Int) < (a : Int) + 1 := by omega
    have b2 : (b : Int) < (b : Int) + 1 := by omega
    obtain ⟨p, hp⟩ : ∃ p, a * b = p := ⟨_, rfl⟩
    rw [hp] at hs1
    have b3 : (s : Int) < (p : Int) + 1 := by omega
    have b4 : s < p + 1 := by omega
    obtain ⟨z, hz⟩ : ∃ z, E a b s = z := ⟨_, rfl⟩
    have HP := Aside0.mk hp
    have HZ := Aside0.mk hz
    rw [hz]
    clear hbn h hp hz
    go_enter Try.func19, Try.ntmps19
    go_upto_region 3 with (go_at_call 41; refine (hib _).mono ?_; rintro e w2 ⟨rfl, hb2⟩; have HB2 := Aside0.mk hb2; clear hb2)
    have hbx := blk_below (blk_new w (.cells #[.int .i64 a, .int .i64 b] 25)) HB2.out
    have s0 : w2.drew.cell? ⟨w.heap.size, 0, none⟩ = some (.int .i64 a) ∧ w2.drew.cell? ⟨w.heap.size, 1, none⟩ = some (.int .i64 b) ∧ Below w.heap.size w w2.drew :=
      ⟨(blk_cell (blk_drew hbx) 0).trans rfl, (blk_cell (blk_drew hbx) 1).trans rfl, below_drew (below_then ((Below.refl _ _).alloc (Nat.le_refl _) _) (by simp) HB2.out)⟩
    clear hbx
    refine start_ (n := 15) (S := (fun w' => w'.cell? ⟨w.heap.size, 0, none⟩ = some (.int .i64 (a : Int)) ∧ w'.cell? ⟨w.heap.size, 1, none⟩ = some (.int .i64 (b : Int)) ∧ Below w.heap.size w w')) (ds := [99]) _ (by kernel_rfl) rfl rfl (s0) (fun hHeld => ?_)
    refine takeS_ 0 (N := some 10) (v := ?_) (a' := ?_) rfl rfl (by kernel_rfl) (fun _ _ _ h => h) (Or.inl ⟨by rfl, ?_⟩) hHeld ?_ ?_
    rotate_left
    · rintro w' ⟨s0, s1, s2⟩; go_simp; with_reducible rfl
    rotate_left
    · simp only [Act.put, List.setIfInBounds_toArray, List.set_cons_zero, List.set_cons_succ, i64_w, i32_w]; rfl
    refine pureS_ 2 (N := some 12) (v := ?_) (a' := ?_) rfl rfl (by kernel_rfl) (fun _ _ _ h => h) (Or.inl ⟨by rfl, ?_⟩) ?_ ?_
    rotate_left
    · intro w'; go_simp; with_reducible rfl
    rotate_left
    · simp only [Act.put, List.setIfInBounds_toArray, List.set_cons_zero, List.set_cons_succ, i64_w, i32_w]; rfl
    refine takeS_ 3 (N := some 13) (v := ?_) (a' := ?_) rfl rfl (by kernel_rfl) (fun _ _ _ h => h) (Or.inl ⟨by rfl, ?_⟩) hHeld ?_ ?_
    rotate_left
    · rintro w' ⟨s0, s1, s2⟩; go_simp; with_reducible rfl
    rotate_left
    · simp only [Act.put, List.setIfInBounds_toArray, List.set_cons_zero, List.set_cons_succ, i64_w, i32_w]; rfl
    refine pureS_ 6 (N := some 16) (v := ?_) (a' := ?_) rfl rfl (by kernel_rfl) (fun _ _ _ h => h) (Or.inl ⟨by rfl, ?_⟩) ?_ ?_
    rotate_left
    · intro w'; go_simp; with_reducible rfl
    rotate_left
    · simp only [Act.put, List.setIfInBounds_toArray, List.set_cons_zero, List.set_cons_succ, i64_w, i32_w]; rfl
    refine takeS_ 7 (N := some 17) (v := ?_) (a' := ?_) rfl rfl (by kernel_rfl) (fun _ _ _ h => h) (Or.inl ⟨by rfl, ?_⟩) hHeld ?_ ?_
    rotate_left
    · rintro w' ⟨s0, s1, s2⟩; go_simp; with_reducible rfl
    rotate_left
    · simp only [Act.put, List.setIfInBounds_toArray, List.set_cons_zero, List.set_cons_succ, i64_w, i32_w]; rfl
    refine pureS_ 10 (N := some 20) (v := ?_) (a' := ?_) rfl rfl (by kernel_rfl) (fun _ _ _ h => h) (Or.inl ⟨by rfl, ?_⟩) ?_ ?_
    rotate_left
    · intro w'; go_simp; with_reducible rfl
    rotate_left
    · simp only [Act.put, List.setIfInBounds_toArray, List.set_cons_zero, List.set_cons_succ, i64_w, i32_w]; rfl
    refine oneS_ 1 (N := some 11) rfl rfl (by kernel_rfl) (by decide) (fun K hK => ?_)
    refine goes_ Try.func35 (by kernel_rfl) rfl #[.agg #[.int .i64 a, .int .i64 b]] (by rfl) rfl rfl (by (try simp only [List.map_toArray, List.map_cons, List.map_nil]); first | done | rfl) ?_
    refine (heat _).mono ?_
    rintro e w3 ⟨T, rfl, HT, hb3⟩
    refine ⟨_, rfl, ?_⟩
    have s3 := box_below hHeld hb3
    obtain ⟨G, C, c1, c2, hC⟩ := eat_cell HT.out ha hb
    have c3 := hC.cell s (by rw [HP.out]; exact b4) trivial
    rw [HZ.out] at c3
    rw [HP.out] at c2
    clear hC hb3
    refine hK.out _ _ s3 (fun hHeld => ?_)
    clear hK K
    refine norm_ (a' := ?_) ?_ ?_
    rotate_left
    · show Act.put _ (some 11) _ = _; simp only [Act.put, List.setIfInBounds_toArray, List.set_cons_zero, List.set_cons_succ, i64_w, i32_w]; rfl
    refine pureS_ 4 (N := some 14) (v := ?_) (a' := ?_) rfl rfl (by kernel_rfl) (fun _ _ _ h => h) (Or.inl ⟨by rfl, ?_⟩) ?_ ?_
    rotate_left
    · intro w'; go_simp; with_reducible rfl
    rotate_left
    · simp only [Act.put, List.setIfInBounds_toArray, List.set_cons_zero, List.set_cons_succ, i64_w, i32_w]; rfl
    refine oneS_ 5 (N := some 15) rfl rfl (by kernel_rfl) (by decide) (fun K hK => ?_)
    refine value_ (v := ?_) (w1 := w3) (by rfl) rfl ?_ ?_
    rotate_left
    · go_simp; rfl
    refine hK.out _ _ hHeld (fun hHeld => ?_)
    clear hK K
    refine norm_ (a' := ?_) ?_ ?_
    rotate_left
    · show Act.put _ (some 15) _ = _; simp only [Act.put, List.setIfInBounds_toArray, List.set_cons_zero, List.set_cons_succ, i64_w, i32_w]; rfl
    refine pureS_ 8 (N := some 18) (v := ?_) (a' := ?_) rfl rfl (by kernel_rfl) (fun _ _ _ h => h) (Or.inl ⟨by rfl, ?_⟩) ?_ ?_
    rotate_left
    · intro w'; go_simp; with_reducible rfl
    rotate_left
    · simp only [Act.put, List.setIfInBounds_toArray, List.set_cons_zero, List.set_cons_succ, i64_w, i32_w]; rfl
    refine oneS_ 9 (N := some 19) rfl rfl (by kernel_rfl) (by decide) (fun K hK => ?_)
    refine value_ (v := ?_) (w1 := w3) (by rfl) rfl ?_ ?_
    rotate_left
    · go_simp; rfl
    refine hK.out _ _ hHeld (fun hHeld => ?_)
    clear hK K
    refine norm_ (a' := ?_) ?_ ?_
    rotate_left
    · show Act.put _ (some 19) _ = _; simp only [Act.put, List.setIfInBounds_toArray, List.set_cons_zero, List.set_cons_succ, i64_w, i32_w]; rfl
    refine pureS_ 11 (N := some 21) (v := ?_) (a' := ?_) rfl rfl (by kernel_rfl) (fun _ _ _ h => h) (Or.inl ⟨by rfl, ?_⟩) ?_ ?_
    rotate_left
    · intro w'; go_simp; with_reducible rfl
    rotate_left
    · simp only [Act.put, List.setIfInBounds_toArray, List.set_cons_zero, List.set_cons_succ, i64_w, i32_w]; rfl
    refine oneS_ 12 (N := some 22) rfl rfl (by kernel_rfl) (by decide) (fun K hK => ?_)
    refine value_ (v := ?_) (w1 := w3) (by rfl) rfl ?_ ?_
    rotate_left
    · go_simp; rfl
    refine hK.out _ _ hHeld (fun hHeld => ?_)
    clear hK K
    refine norm_ (a' := ?_) ?_ ?_
    rotate_left
    · show Act.put _ (some 22) _ = _; simp only [Act.put, List.setIfInBounds_toArray, List.set_cons_zero, List.set_cons_succ, i64_w, i32_w]; rfl
    refine pureS_ 13 (N := some 4) (v := ?_) (a' := ?_) rfl rfl (by kernel_rfl) (fun _ _ _ h => h) (Or.inl ⟨by rfl, ?_⟩) ?_ ?_
    rotate_left
    · intro w'; go_simp; with_reducible rfl
    rotate_left
    · simp only [Act.put, List.setIfInBounds_toArray, List.set_cons_zero, List.set_cons_succ, i64_w, i32_w]; rfl
    refine pureS_ 14 (N := some 5) (v := ?_) (a' := ?_) rfl rfl (by kernel_rfl) (fun _ _ _ h => h) (Or.inl ⟨by rfl, ?_⟩) ?_ ?_
    rotate_left
    · intro w'; go_simp; with_reducible rfl
    rotate_left
    · simp only [Act.put, List.setIfInBounds_toArray, List.set_cons_zero, List.set_cons_succ, i64_w, i32_w]; rfl
    refine done_ (by kernel_rfl) ?_
    have hend := hHeld.2.2
    have HEND := Aside0.mk hend
    clear hend s0 s3 c1 c2 c3 hHeld
    go_wp2
    go_ret2
    exact ⟨rfl, HEND.out⟩
  · rw [decide_eq_false hok] at hib
    rw [if_neg hok] at h
    obtain ⟨rfl, rfl⟩ := Prod.mk.inj h
    clear hok h
    go_enter Try.func19, Try.ntmps19
    go_wp2_with (go_at_call 41; refine (hib _).mono ?_; rintro e w2 ⟨rfl, hb2⟩; have HB2 := Aside0.mk hb2; clear hb2)
    go_ret2
    exact ⟨rfl, below_then ((Below.refl _ _).alloc (Nat.le_refl _) _) (by simp) HB2.out⟩

def spec_CheapestToEat.f (a0_0 : Int) (a0_1 : Int) : Option (Int × Int × Bool) := some (if okB a0_0 a0_1 ∧ a0_0 * a0_1 ≠ 1 then ((cheap a0_0.toNat a0_1.toNat).1, (cheap a0_0.toNat a0_1.toNat).2, true) else (0, 0, false))
set_option maxHeartbeats 4000000 in
set_option maxRecDepth 100000 in
theorem spec_CheapestToEat.calls (a0_0 : Int) (a0_1 : Int) (r1 : Int) (r2 : Int) (r3 : Bool) (w : World) (h : spec_CheapestToEat.f a0_0 a0_1 = some (r1, r2, r3)) :
    Calls Try.prog 11 #[.agg #[.int .i64 a0_0, .int .i64 a0_1]] w fun e w' => e = .returned (.tuple #[.int .i64 r1, .int .i64 r2, .bool r3]) ∧ Below w.heap.size w w' := by
  have hu25 := Try.underlying25
  have hib := fun w => spec_brGood.calls a0_0 a0_1 _ w (brGood_eq a0_0 a0_1)
  unfold spec_CheapestToEat.f at h
  replace h := Option.some.inj h
  by_cases hok : okB a0_0 a0_1 ∧ a0_0 * a0_1 ≠ 1
  · rw [decide_eq_true hok.1] at hib
    rw [if_pos hok] at h
    obtain ⟨hok, hne⟩ := hok
    have hpr := prod_in hok
    obtain ⟨a, rfl⟩ := Int.eq_ofNat_of_zero_le (a := a0_0) (by have := hok.1; omega)
    obtain ⟨b, rfl⟩ := Int.eq_ofNat_of_zero_le (a := a0_1) (by have := hok.2; omega)
    simp only [Int.toNat_natCast, Prod.mk.injEq] at h
    obtain ⟨rfl, rfl, rfl⟩ := h
    have ha : 1 ≤ a := by have := hok.1; omega
    have hb : 1 ≤ b := by have := hok.2; omega
    have hab : (1 ≤ a ∧ a ≤ 12) ∧ 1 ≤ b ∧ b ≤ 12 := by have h1 := hok.1; have h2 := hok.2; omega
    have heat := fun W => brEat_any a b hok W
    have hbn : ∀ (W : World), W.heap.size < (W.alloc (.cells #[.int .i64 a, .int .i64 b] 25)).heap.size := fun W => by simp
    have HBN := Aside0.mk hbn
    have b1 : (a : Int) < (a : Int) + 1 := by omega
    have b2 : (b : Int) < (b : Int) + 1 := by omega
    obtain ⟨p, hp⟩ : ∃ p, a * b = p := ⟨_, rfl⟩
    have hmul : (a : Int) * (b : Int) = (p : Int) := by rw [← Int.natCast_mul, hp]
    rw [hmul] at hne hpr
    have hpt : ((p : Int) == 1) = false := beq_eq_false_iff_ne.2 hne
    have HP := Aside0.mk hp
    have HAB := Aside0.mk hab
    have hwm : wrap64 ((a : Int) * (b : Int)) = (p : Int) := by rw [hmul]; unfold wrap64; omega
    have hwm2 : IntKind.i64.wrap ((a : Int) * (b : Int)) = (p : Int) := by rw [hmul, IntKind.wrap_i64]; omega
    clear hbn hp hne hab
    go_enter Try.func11, Try.ntmps11
    go_upto_region 4 with (go_at_call 28; refine (hib _).mono ?_; rintro e w2 ⟨rfl, hb2⟩; have HB2 := Aside0.mk hb2; have k0 : w2.cell? ⟨w.heap.size, 0, none⟩ = some (.int .i64 a) := (blk_cell (blk_below (blk_new w (.cells #[.int .i64 a, .int .i64 b] 25)) hb2) 0).trans rfl; have k1 : w2.cell? ⟨w.heap.size, 1, none⟩ = some (.int .i64 b) := (blk_cell (blk_below (blk_new w (.cells #[.int .i64 a, .int .i64 b] 25)) hb2) 1).trans rfl; clear hb2)
    have hbx := blk_below (blk_new w (.cells #[.int .i64 a, .int .i64 b] 25)) HB2.out
    have s0 : w2.drew.cell? ⟨w.heap.size, 0, none⟩ = some (.int .i64 a) ∧ w2.drew.cell? ⟨w.heap.size, 1, none⟩ = some (.int .i64 b) ∧ Below w.heap.size w w2.drew :=
      ⟨(blk_cell (blk_drew hbx) 0).trans rfl, (blk_cell (blk_drew hbx) 1).trans rfl, below_drew (below_then ((Below.refl _ _).alloc (Nat.le_refl _) _) (by simp) HB2.out)⟩
    clear hbx
    refine start_ (n := 12) (S := (fun w' => w'.cell? ⟨w.heap.size, 0, none⟩ = some (.int .i64 (a : Int)) ∧ w'.cell? ⟨w.heap.size, 1, none⟩ = some (.int .i64 (b : Int)) ∧ Below w.heap.size w w')) (ds := [99]) _ (by kernel_rfl) rfl rfl (s0) (fun hHeld => ?_)
    refine takeS_ 0 (N := some 20) (v := ?_) (a' := ?_) rfl rfl (by kernel_rfl) (fun _ _ _ h => h) (Or.inl ⟨by rfl, ?_⟩) hHeld ?_ ?_
    rotate_left
    · rintro w' ⟨s0, s1, s2⟩; go_simp; with_reducible rfl
    rotate_left
    · simp only [Act.put, List.setIfInBounds_toArray, List.set_cons_zero, List.set_cons_succ, i64_w, i32_w]; rfl
    refine pureS_ 2 (N := some 22) (v := ?_) (a' := ?_) rfl rfl (by kernel_rfl) (fun _ _ _ h => h) (Or.inl ⟨by rfl, ?_⟩) ?_ ?_
    rotate_left
    · intro w'; go_simp; with_reducible rfl
    rotate_left
    · simp only [Act.put, List.setIfInBounds_toArray, List.set_cons_zero, List.set_cons_succ, i64_w, i32_w]; rfl
    refine takeS_ 3 (N := some 23) (v := ?_) (a' := ?_) rfl rfl (by kernel_rfl) (fun _ _ _ h => h) (Or.inl ⟨by rfl, ?_⟩) hHeld ?_ ?_
    rotate_left
    · rintro w' ⟨s0, s1, s2⟩; go_simp; with_reducible rfl
    rotate_left
    · simp only [Act.put, List.setIfInBounds_toArray, List.set_cons_zero, List.set_cons_succ, i64_w, i32_w]; rfl
    refine pureS_ 6 (N := some 26) (v := ?_) (a' := ?_) rfl rfl (by kernel_rfl) (fun _ _ _ h => h) (Or.inl ⟨by rfl, ?_⟩) ?_ ?_
    rotate_left
    · intro w'; go_simp; with_reducible rfl
    rotate_left
    · simp only [Act.put, List.setIfInBounds_toArray, List.set_cons_zero, List.set_cons_succ, i64_w, i32_w]; rfl
    refine takeS_ 7 (N := some 27) (v := ?_) (a' := ?_) rfl rfl (by kernel_rfl) (fun _ _ _ h => h) (Or.inl ⟨by rfl, ?_⟩) hHeld ?_ ?_
    rotate_left
    · rintro w' ⟨s0, s1, s2⟩; go_simp; with_reducible rfl
    rotate_left
    · simp only [Act.put, List.setIfInBounds_toArray, List.set_cons_zero, List.set_cons_succ, i64_w, i32_w]; rfl
    refine pureS_ 11 (N := some 31) (v := ?_) (a' := ?_) rfl rfl (by kernel_rfl) (fun _ _ _ h => h) (Or.inl ⟨by rfl, ?_⟩) ?_ ?_
    rotate_left
    · intro w'; go_simp; with_reducible rfl
    rotate_left
    · simp only [Act.put, List.setIfInBounds_toArray, List.set_cons_zero, List.set_cons_succ, i64_w, i32_w]; rfl
    refine oneS_ 1 (N := some 21) rfl rfl (by kernel_rfl) (by decide) (fun K hK => ?_)
    refine goes_ Try.func35 (by kernel_rfl) rfl #[.agg #[.int .i64 a, .int .i64 b]] (by rfl) rfl rfl (by (try simp only [List.map_toArray, List.map_cons, List.map_nil]); first | done | rfl) ?_
    refine (heat _).mono ?_
    rintro e w3 ⟨T, rfl, HT, hb3⟩
    refine ⟨_, rfl, ?_⟩
    have s3 := box_below hHeld hb3
    obtain ⟨G, C, c1, c2, hC⟩ := eat_cell HT.out ha hb
    rw [HP.out] at c2 hC
    have HC := Aside0.mk hC
    clear hC
    have HB3 := Aside0.mk s3.2.2
    refine hK.out _ _ s3 (fun hHeld => ?_)
    clear hK K
    refine norm_ (a' := ?_) ?_ ?_
    rotate_left
    · show Act.put _ (some 21) _ = _; simp only [Act.put, List.setIfInBounds_toArray, List.set_cons_zero, List.set_cons_succ, i64_w, i32_w]; rfl
    refine pureS_ 4 (N := some 24) (v := ?_) (a' := ?_) rfl rfl (by kernel_rfl) (fun _ _ _ h => h) (Or.inl ⟨by rfl, ?_⟩) ?_ ?_
    rotate_left
    · intro w'; go_simp; with_reducible rfl
    rotate_left
    · simp only [Act.put, List.setIfInBounds_toArray, List.set_cons_zero, List.set_cons_succ, i64_w, i32_w]; rfl
    refine oneS_ 5 (N := some 25) rfl rfl (by kernel_rfl) (by decide) (fun K hK => ?_)
    refine value_ (v := ?_) (w1 := w3) (by rfl) rfl ?_ ?_
    rotate_left
    · go_simp; rfl
    refine hK.out _ _ hHeld (fun hHeld => ?_)
    clear hK K
    refine norm_ (a' := ?_) ?_ ?_
    rotate_left
    · show Act.put _ (some 25) _ = _; simp only [Act.put, List.setIfInBounds_toArray, List.set_cons_zero, List.set_cons_succ, i64_w, i32_w]; rfl
    refine pureS_ 8 (N := some 28) (v := ?_) (a' := ?_) rfl rfl (by kernel_rfl) (fun _ _ _ h => h) (Or.inl ⟨by rfl, ?_⟩) ?_ ?_
    rotate_left
    · intro w'; go_simp; with_reducible rfl
    rotate_left
    · simp only [Act.put, List.setIfInBounds_toArray, List.set_cons_zero, List.set_cons_succ, i64_w, i32_w]; rfl
    refine oneS_ 9 (N := some 29) rfl rfl (by kernel_rfl) (by decide) (fun K hK => ?_)
    refine value_ (v := ?_) (w1 := w3) (by rfl) rfl ?_ ?_
    rotate_left
    · go_simp; rfl
    refine hK.out _ _ hHeld (fun hHeld => ?_)
    clear hK K
    refine norm_ (a' := ?_) ?_ ?_
    rotate_left
    · show Act.put _ (some 29) _ = _; simp only [Act.put, List.setIfInBounds_toArray, List.set_cons_zero, List.set_cons_succ, i64_w, i32_w]; rfl
    refine pureS_ 10 (N := some 30) (v := ?_) (a' := ?_) rfl rfl (by kernel_rfl) (fun _ _ _ h => h) (Or.inl ⟨by rfl, ?_⟩) ?_ ?_
    rotate_left
    · intro w'; go_simp; with_reducible rfl
    rotate_left
    · simp only [Act.put, List.setIfInBounds_toArray, List.set_cons_zero, List.set_cons_succ, i64_w, i32_w]; rfl
    refine done_ (by kernel_rfl) ?_
    have s4 := hHeld
    have HS4 := Aside0.mk s4
    clear s4 s0 s3 hHeld c1 c2 HB2 k0 k1
    go_wp2
    go_loopg [5, 6, 31] (p + 1) (fun gg s5 s6 s31 wr => ∃ k : Nat, k ≤ p + 1 ∧ p + 1 - k ≤ gg ∧ s31 = .int .i64 k ∧ s5 = .int .i64 (cf a b k).1 ∧ s6 = .int .i64 (cf a b k).2 ∧ wr = w3)
    case atStart => exact ⟨0, by omega, by omega, rfl, rfl, rfl, rfl⟩
    case round =>
      obtain ⟨k, hk, hgg, rfl, rfl, rfl, hwr⟩ := hrel
      subst hwr
      have c0 := HS4.out.1
      have c1 := HS4.out.2.1
      by_cases hlt : k < p + 1
      · have hltz : (k : Int) < (p : Int) + 1 := by omega
        have c2 := HC.out.cell k hlt trivial
        have HCF : Aside0 (cf a b (k + 1) = if (0 < k ∧ k < a * b) ∧ ((cf a b k).2 < 0 ∨ E a b k < (cf a b k).2) then ((k : Int), E a b k) else cf a b k) := ⟨rfl⟩
        obtain ⟨z, hz⟩ : ∃ z, E a b k = z := ⟨_, rfl⟩
        obtain ⟨⟨x, y⟩, hst⟩ : ∃ st, cf a b k = st := ⟨_, rfl⟩
        rw [hz, hst, HP.out] at HCF
        rw [hz] at c2
        rw [hst]
        simp only at HCF ⊢
        clear hz hst
        by_cases h0 : 0 < k
        · have h0z : (0 : Int) < (k : Int) := by omega
          by_cases h1 : k < p
          · have h1z : (k : Int) < (p : Int) := by omega
            by_cases h2 : y < 0
            · have HN : Aside0 (cf a b (k + 1) = ((k : Int), z)) := ⟨by rw [HCF.out, if_pos ⟨⟨h0, h1⟩, .inl h2⟩]⟩
              go_wp2
              go_roundg (p + 1 - (k + 1))
              case measure => omega
              case rel => exact ⟨k + 1, by omega, by omega, by go_num, by rw [HN.out], by rw [HN.out], rfl⟩
            · by_cases h3 : z < y
              · have HN : Aside0 (cf a b (k + 1) = ((k : Int), z)) := ⟨by rw [HCF.out, if_pos ⟨⟨h0, h1⟩, .inr h3⟩]⟩
                go_wp2
                go_roundg (p + 1 - (k + 1))
                case measure => omega
                case rel => exact ⟨k + 1, by omega, by omega, by go_num, by rw [HN.out], by rw [HN.out], rfl⟩
              · have HN : Aside0 (cf a b (k + 1) = (x, y)) := ⟨by rw [HCF.out, if_neg (fun h => h.2.elim h2 h3)]⟩
                go_wp2
                go_roundg (p + 1 - (k + 1))
                case measure => omega
                case rel => exact ⟨k + 1, by omega, by omega, by go_num, by rw [HN.out], by rw [HN.out], rfl⟩
          · have h1z : ¬ (k : Int) < (p : Int) := by omega
            have HN : Aside0 (cf a b (k + 1) = (x, y)) := ⟨by rw [HCF.out, if_neg (fun h => h1 h.1.2)]⟩
            go_wp2
            go_roundg (p + 1 - (k + 1))
            case measure => omega
            case rel => exact ⟨k + 1, by omega, by omega, by go_num, by rw [HN.out], by rw [HN.out], rfl⟩
        · have h0z : ¬ (0 : Int) < (k : Int) := by omega
          have HN : Aside0 (cf a b (k + 1) = (x, y)) := ⟨by rw [HCF.out, if_neg (fun h => h0 h.1.1)]⟩
          go_wp2
          go_roundg (p + 1 - (k + 1))
          case measure => omega
          case rel => exact ⟨k + 1, by omega, by omega, by go_num, by rw [HN.out], by rw [HN.out], rfl⟩
      · obtain rfl : k = p + 1 := by omega
        have hltz : ¬ ((p + 1 : Nat) : Int) < (p : Int) + 1 := by omega
        have HE : Aside0 (cheap a b = cf a b (p + 1)) := ⟨by unfold cheap; rw [HP.out]⟩
        go_wp2
        refine bodyPost_ret (v := .tuple #[.int .i64 (cf a b (p + 1)).1, .int .i64 (cf a b (p + 1)).2, .bool true]) (by simp [results, Try.results11, go_sem]) rfl ⟨by rw [HE.out], HS4.out.2.2⟩
  · rw [if_neg hok] at h
    simp only [Prod.mk.injEq] at h
    obtain ⟨rfl, rfl, rfl⟩ := h
    by_cases hg : okB a0_0 a0_1
    · have hpr := prod_in hg
      have he : a0_0 * a0_1 = 1 := by
        by_cases he : a0_0 * a0_1 = 1
        · exact he
        · exact absurd ⟨hg, he⟩ hok
      have hpt : (a0_0 * a0_1 == 1) = true := beq_iff_eq.2 he
      have hwm : IntKind.i64.wrap (a0_0 * a0_1) = a0_0 * a0_1 := by rw [IntKind.wrap_i64]; omega
      rw [decide_eq_true hg] at hib
      clear hok he hg
      go_enter Try.func11, Try.ntmps11
      go_wp2_with (go_at_call 28; refine (hib _).mono ?_; rintro e w2 ⟨rfl, hb2⟩; have HB2 := Aside0.mk hb2; have k0 : w2.cell? ⟨w.heap.size, 0, none⟩ = some (.int .i64 a0_0) := (blk_cell (blk_below (blk_new w (.cells #[.int .i64 a0_0, .int .i64 a0_1] 25)) hb2) 0).trans rfl; have k1 : w2.cell? ⟨w.heap.size, 1, none⟩ = some (.int .i64 a0_1) := (blk_cell (blk_below (blk_new w (.cells #[.int .i64 a0_0, .int .i64 a0_1] 25)) hb2) 1).trans rfl; clear hb2)
      refine bodyPost_ret (v := .tuple #[.int .i64 0, .int .i64 0, .bool false]) (by simp [results, Try.results11, go_sem]) rfl ⟨rfl, below_then ((Below.refl _ _).alloc (Nat.le_refl _) _) (by simp) HB2.out⟩
    · rw [decide_eq_false hg] at hib
      clear hok hg
      go_enter Try.func11, Try.ntmps11
      go_wp2_with (go_at_call 28; refine (hib _).mono ?_; rintro e w2 ⟨rfl, hb2⟩; have HB2 := Aside0.mk hb2; clear hb2)
      refine bodyPost_ret (v := .tuple #[.int .i64 0, .int .i64 0, .bool false]) (by simp [results, Try.results11, go_sem]) rfl ⟨rfl, below_then ((Below.refl _ _).alloc (Nat.le_refl _) _) (by simp) HB2.out⟩
end Go.Proofs.Ytkoplphcdkmilaa.All
end
