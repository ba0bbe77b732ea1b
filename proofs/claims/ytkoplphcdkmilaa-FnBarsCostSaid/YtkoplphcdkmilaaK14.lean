/- Texts of this claim joined, in the order in which they build: PEat2, GCheap, GFirst. -/
import Derived.Test.YtkoplphcdkmilaaK13
section
namespace Go.Proofs.Ytkoplphcdkmilaa.PEat
open Go.RowKit Go.Proofs.Ytkoplphcdkmilaa.All Go.Proofs.YtkoplphcdkmilaaW.PrintWords Go.Proofs.YtkoplphcdkmilaaW.PrintLast Go.Proofs.YtkoplphcdkmilaaW.PrintMore Go.Proofs.Ytkoplphcdkmilaa.PEv Go.Proofs.Ytkoplphcdkmilaa.PCount Go.Proofs.Ytkoplphcdkmilaa.PImpl Go.Proofs.Ytkoplphcdkmilaa.GBar
set_option linter.unusedVariables false

def good (w h s : Nat) (c : Bool × Nat) : Bool := decide (SE w h c s + price w h c.1 = E w h s)
def firstC (w h s : Nat) : Bool × Nat := ((cutsN w h).find? (good w h s)).getD (false, 0)
theorem good_some {w h s : Nat} (hw : 1 ≤ w) (hh : 1 ≤ h) (h0 : 0 < s) (h1 : s < w * h) : ∃ c, c ∈ cutsN w h ∧ good w h s c = true := by
  obtain ⟨⟨c, hc, u, hu, h2⟩, h3⟩ := E_least hw hh h0 h1
  have h4 := SE_least hc hw hh (k := s) (by omega)
  have h5 := h4.2 u hu
  have h6 := h3 _ ⟨c, hc, _, h4.1, rfl⟩
  exact ⟨c, hc, decide_eq_true (by omega)⟩
theorem first_at {w h s n : Nat} {c : Bool × Nat} (hc : (cutsN w h)[n]? = some c) (hg : good w h s c = true) (hb : ∀ m, m < n → ∀ c', (cutsN w h)[m]? = some c' → good w h s c' = false) : firstC w h s = c := by
  unfold firstC
  obtain ⟨hn, rfl⟩ := List.getElem?_eq_some_iff.1 hc
  have : (cutsN w h).find? (good w h s) = some (cutsN w h)[n] := by
    rw [List.find?_eq_some_iff_getElem]
    exact ⟨hg, n, hn, rfl, fun j hj => by simpa using hb j hj _ (List.getElem?_eq_getElem (by omega))⟩
  rw [this]
  rfl
theorem first_in {w h s : Nat} (hw : 1 ≤ w) (hh : 1 ≤ h) (h0 : 0 < s) (h1 : s < w * h) : firstC w h s ∈ cutsN w h ∧ SE w h (firstC w h s) s + price w h (firstC w h s).1 = E w h s := by
  obtain ⟨c, hc, hg⟩ := good_some hw hh h0 h1
  unfold firstC
  cases hf : (cutsN w h).find? (good w h s) with
  | none =>
    have := List.find?_eq_none.1 hf c hc
    exact absurd hg this
  | some d =>
    have h2 : good w h s d = true := List.find?_some hf
    exact ⟨List.mem_of_find?_eq_some hf, of_decide_eq_true h2⟩

def cf (w h : Nat) : Nat → Int × Int
  | 0 => (0, -1)
  | k + 1 => if (0 < k ∧ k < w * h) ∧ ((cf w h k).2 < 0 ∨ E w h k < (cf w h k).2) then ((k : Int), E w h k) else cf w h k
theorem cf_inv {w h : Nat} (hw : 1 ≤ w ∧ w ≤ 12) (hh : 1 ≤ h ∧ h ≤ 12) : ∀ k, k ≤ w * h →
    (k ≤ 1 ∧ cf w h k = (0, -1)) ∨ (1 < k ∧ ∃ b : Nat, 1 ≤ b ∧ b < k ∧ cf w h k = ((b : Int), E w h b) ∧ (∀ j, 1 ≤ j → j < k → E w h b ≤ E w h j) ∧ ∀ j, 1 ≤ j → j < b → E w h b < E w h j)
  | 0, _ => .inl ⟨by omega, rfl⟩
  | k + 1, hk => by
    have ih := cf_inv hw hh k (by omega)
    have hp : 0 < k → 1 ≤ E w h k := fun h => E_pos hw hh h (by omega)
    rcases ih with ⟨h1, h2⟩ | ⟨h1, b, b1, b2, b3, b4, b5⟩
    · by_cases h0 : k = 0
      · subst h0
        refine .inl ⟨by omega, ?_⟩
        rw [cf, if_neg (by omega)]
        exact h2
      · obtain rfl : k = 1 := by omega
        refine .inr ⟨by omega, 1, by omega, by omega, ?_, fun j j1 j2 => by rw [show j = 1 by omega]; exact Int.le_refl _, fun j j1 j2 => by omega⟩
        rw [cf, h2, if_pos ⟨⟨by omega, by omega⟩, .inl (by simp)⟩]
    · have hb := E_pos hw hh (k := b) (by omega) (by omega)
      by_cases hc : E w h k < E w h b
      · refine .inr ⟨by omega, k, by omega, by omega, ?_, fun j j1 j2 => ?_, fun j j1 j2 => ?_⟩
        · rw [cf, b3, if_pos ⟨⟨by omega, by omega⟩, .inr hc⟩]
        · by_cases he : j = k
          · rw [he]; exact Int.le_refl _
          · have := b4 j j1 (by omega); omega
        · have := b4 j j1 j2; omega
      · refine .inr ⟨by omega, b, b1, by omega, ?_, fun j j1 j2 => ?_, b5⟩
        · rw [cf, b3, if_neg (by rintro ⟨_, h | h⟩ <;> simp at h <;> omega)]
        · by_cases he : j = k
          · rw [he]; omega
          · exact b4 j j1 (by omega)
def cheap (w h : Nat) : Int × Int := cf w h (w * h + 1)
theorem cheap_eq {w h : Nat} (hw : 1 ≤ w ∧ w ≤ 12) (hh : 1 ≤ h ∧ h ≤ 12) (hp : 1 < w * h) : ∃ b : Nat, 1 ≤ b ∧ b < w * h ∧ cheap w h = ((b : Int), E w h b) ∧ (∀ j, 1 ≤ j → j < w * h → E w h b ≤ E w h j) ∧ ∀ j, 1 ≤ j → j < b → E w h b < E w h j := by
  have hs : cheap w h = cf w h (w * h) := by
    unfold cheap
    rw [cf, if_neg (by omega)]
  rcases cf_inv hw hh (w * h) (Nat.le_refl _) with ⟨h1, _⟩ | ⟨h1, b, b1, b2, b3, b4, b5⟩
  · omega
  · exact ⟨b, b1, b2, by rw [hs, b3], b4, b5⟩
theorem brSome_eq (a b s : Int) : spec_brSome.f a b s = some (decide (okB a b ∧ 0 ≤ s ∧ s ≤ a * b)) := by
  unfold spec_brSome.f
  rw [brGood_eq, Option.bind_some]
  by_cases h : okB a b
  · have := prod_in h
    rw [if_pos (decide_eq_true h), wrap_in (by omega) (by omega), l1In_eq]
    simp [h]
  · rw [if_neg (by simp [h])]
    simp [h]
end Go.Proofs.Ytkoplphcdkmilaa.PEat
end
section
namespace Go.Proofs.Ytkoplphcdkmilaa.All
open Go.RowKit Go.Proofs.YtkoplphcdkmilaaW.PrintWords Go.Proofs.YtkoplphcdkmilaaW.PrintLast Go.Proofs.YtkoplphcdkmilaaW.PrintMore Go.Shelf Go.Maps Go.Joins Go.Proofs.Ytkoplphcdkmilaa.PEv Go.Proofs.Ytkoplphcdkmilaa.PCount Go.Proofs.Ytkoplphcdkmilaa.GBar Go.Proofs.Ytkoplphcdkmilaa.PImpl Go.Proofs.Ytkoplphcdkmilaa.GTab Go.Proofs.Ytkoplphcdkmilaa.PEat Go.Proofs.Ytkoplphcdkmilaa.PEatEv Go.Proofs.Ytkoplphcdkmilaa.GEat
attribute [local go_sem] max2_int min2_int max_two min_two
set_option linter.unusedVariables false
set_option linter.unusedSimpArgs false

def minTo (v : Nat → Int) : Nat → Int
  | 0 => v 0
  | k + 1 => min (minTo v k) (v (k + 1))
set_option maxHeartbeats 2000000 in
theorem min_any (g n c : Nat) (v : Nat → Int) (W : World) (hn : 0 < n) (hn2 : n ≤ 1000) (hv : ∀ j, j < n → W.cell? ⟨g, 1 + j, none⟩ = some (.int .i64 (v j))) :
    Calls Try.prog 33 #[.slice (some ⟨g, 1, none⟩) n c] W fun e w' => e = .returned (.int .i64 (minTo v (n - 1))) ∧ w' = W := by
  have HV := Aside0.mk hv
  have c0 := hv 0 hn
  simp only [Nat.add_zero] at c0
  have b1 : ¬ (n : Int) < 1 := by omega
  have b2 : (0 : Int) < (n : Int) := by omega
  clear hv
  go_enter Try.func33, Try.ntmps33
  go_wp2
  go_loopg [3, 4] n (fun gg s3 s4 wr => ∃ k : Nat, 1 ≤ k ∧ k ≤ n ∧ n - k ≤ gg ∧ s4 = .int .i64 k ∧ s3 = .int .i64 (minTo v (k - 1)) ∧ wr = W)
  case atStart => exact ⟨1, by omega, by omega, by omega, rfl, rfl, rfl⟩
  case round =>
    obtain ⟨k, hk1, hk2, hgg, rfl, rfl, hwr⟩ := hrel
    subst hwr
    clear c0
    by_cases hlt : k < n
    · have hltz : (k : Int) < (n : Int) := by omega
      have c1 := HV.out k hlt
      obtain ⟨m, rfl⟩ : ∃ m, k = m + 1 := ⟨k - 1, by omega⟩
      have hst : minTo v (m + 1 + 1 - 1) = min (minTo v m) (v (m + 1)) := rfl
      rw [show m + 1 - 1 = m from rfl]
      obtain ⟨x, hx⟩ : ∃ x, minTo v m = x := ⟨_, rfl⟩
      obtain ⟨y, hy⟩ : ∃ y, v (m + 1) = y := ⟨_, rfl⟩
      rw [hx, hy] at hst
      rw [hy] at c1
      rw [hx]
      have HST := Aside0.mk hst
      clear hst hx hy
      by_cases hc : y < x
      · have hmn : Aside0 (min x y = y) := ⟨by omega⟩
        go_wp2
        go_roundg (n - (m + 1 + 1))
        case measure => omega
        case rel => exact ⟨m + 1 + 1, by omega, by omega, by omega, by go_num, by rw [HST.out, hmn.out], rfl⟩
      · have hmn : Aside0 (min x y = x) := ⟨by omega⟩
        go_wp2
        go_roundg (n - (m + 1 + 1))
        case measure => omega
        case rel => exact ⟨m + 1 + 1, by omega, by omega, by omega, by go_num, by rw [HST.out, hmn.out], rfl⟩
    · obtain rfl : k = n := by omega
      have hltz : ¬ (k : Int) < (k : Int) := by omega
      go_wp2
      go_ret
      exact ⟨rfl, rfl⟩
theorem index_l0 (xs : List Int) (x : Int) (hl : xs.length ≤ 1000) (b : Nat) (hb : b < xs.length) (hx : rd xs (b : Int) = x) (hn : ∀ j : Nat, j < b → rd xs (j : Int) ≠ x) : ∀ (d j : Nat), j + d = b → Ev (fun k => slices_Index_int_int.l0 k xs x (xs.length : Int) (j : Int)) (b : Int) := by
  intro d
  induction d with
  | zero =>
    intro j h
    obtain rfl : j = b := by omega
    refine Ev.step (f := fun _ => some (j : Int)) (fun k => ?_) (Ev.now _)
    simp only [slices_Index_int_int.l0]
    rw [if_pos (by omega), if_pos (by omega), if_pos (by omega), if_pos hx.symm]
  | succ d ih =>
    intro j h
    have := ih (j + 1) (by omega)
    refine Ev.step (f := fun k => slices_Index_int_int.l0 k xs x (xs.length : Int) ((j + 1 : Nat) : Int)) (fun k => ?_) this
    simp only [slices_Index_int_int.l0]
    rw [if_pos (by omega), if_pos (by omega), if_pos (by omega), if_neg (fun h => hn j (by omega) h.symm), wrap_in (by omega) (by omega)]
    rfl
theorem minTo_least (v : Nat → Int) : ∀ k, (∀ j, j ≤ k → minTo v k ≤ v j) ∧ ∃ j, j ≤ k ∧ minTo v k = v j
  | 0 => ⟨fun j hj => by rw [show j = 0 by omega]; exact Int.le_refl _, 0, by omega, rfl⟩
  | k + 1 => by
    obtain ⟨h1, j, h2, h3⟩ := minTo_least v k
    have e : minTo v (k + 1) = min (minTo v k) (v (k + 1)) := rfl
    refine ⟨fun i hi => ?_, ?_⟩
    · by_cases he : i = k + 1
      · rw [he]; omega
      · have := h1 i (by omega); omega
    · by_cases hc : minTo v k ≤ v (k + 1)
      · exact ⟨j, by omega, by omega⟩
      · exact ⟨k + 1, by omega, by omega⟩
theorem C_at (W : World) (g o : Nat) (xs : List Int) (hl : xs.length ≤ 9223372036854775807) (hc : ∀ i (hi : i < xs.length), W.cell? ⟨g, o + i, none⟩ = some (.int .i64 xs[i])) : Kd.C (Kd.int .i64) W (some ⟨g, o, none⟩) xs.length xs := by
  refine ⟨rfl, hl, fun _ => ⟨_, rfl, fun j p hj => ?_⟩⟩
  obtain ⟨hlt, rfl⟩ := List.getElem?_eq_some_iff.1 hj
  refine ⟨[.int .i64 xs[j]], rfl, rfl, fun i u hu => ?_⟩
  cases i with
  | zero =>
    have : u = .int .i64 xs[j] := by simpa using hu.symm
    subst this
    rw [show (Kd.int .i64).sz = 1 from rfl, Nat.mul_one, Nat.add_zero]
    have h := hc j hlt
    unfold Addr.add
    split
    · next h0 => subst h0; exact h
    · exact h
  | succ i => simp at hu

def impl_CheapestToEat.f (a0_0 : Int) (a0_1 : Int) : Option (Int × Int × Bool) := some (if okB a0_0 a0_1 ∧ a0_0 * a0_1 ≠ 1 then ((cheap a0_0.toNat a0_1.toNat).1, (cheap a0_0.toNat a0_1.toNat).2, true) else (0, 0, false))
set_option maxHeartbeats 4000000 in
set_option maxRecDepth 100000 in
theorem impl_CheapestToEat.calls (a0_0 : Int) (a0_1 : Int) (r1 : Int) (r2 : Int) (r3 : Bool) (w : World) (h : impl_CheapestToEat.f a0_0 a0_1 = some (r1, r2, r3)) :
    Calls Try.prog 10 #[.agg #[.int .i64 a0_0, .int .i64 a0_1]] w fun e w' => e = .returned (.tuple #[.int .i64 r1, .int .i64 r2, .bool r3]) ∧ Below w.heap.size w w' := by
  have hu25 := Try.underlying25
  have hib := fun w => impl_isBar.calls a0_0 a0_1 _ w (isBar_eq a0_0 a0_1)
  unfold impl_CheapestToEat.f at h
  replace h := Option.some.inj h
  by_cases hok : okB a0_0 a0_1
  · rw [decide_eq_true hok] at hib
    have hsq := fun w => impl_Bar_squares.calls a0_0 a0_1 _ w (squares_eq hok)
    have hpb := prod_in hok
    by_cases hne : a0_0 * a0_1 = 1
    · rw [if_neg (fun h => h.2 hne)] at h
      simp only [Prod.mk.injEq] at h
      obtain ⟨rfl, rfl, rfl⟩ := h
      rw [hne] at hsq
      clear hok hne hpb
      go_enter Try.func10, Try.ntmps10
      go_wp2_with (first
        | (go_at_call 30; refine (hib _).mono ?_; rintro e w2 ⟨rfl, hb2⟩; have s2 := boxed_below (boxed w (.int .i64 a0_0) (.int .i64 a0_1)) hb2; have c0 := s2.1; have c1 := s2.2.1; have HS2 := Aside0.mk s2; clear s2 hb2)
        | (go_at_call 31; refine (hsq _).mono ?_; rintro e w3 ⟨rfl, hb3⟩; have s3 := boxed_below HS2.out hb3; have HS3 := Aside0.mk s3; clear s3 hb3))
      refine bodyPost_ret (v := .tuple #[.int .i64 0, .int .i64 0, .bool false]) (by simp [results, Try.results10, go_sem]) rfl ⟨rfl, HS3.out.2.2⟩
    · rw [if_pos ⟨hok, hne⟩] at h
      obtain ⟨a, rfl⟩ := Int.eq_ofNat_of_zero_le (a := a0_0) (by have := hok.1; omega)
      obtain ⟨b, rfl⟩ := Int.eq_ofNat_of_zero_le (a := a0_1) (by have := hok.2; omega)
      simp only [Int.toNat_natCast, Prod.mk.injEq] at h
      obtain ⟨rfl, rfl, rfl⟩ := h
      have hab : (1 ≤ a ∧ a ≤ 12) ∧ 1 ≤ b ∧ b ≤ 12 := by have h1 := hok.1; have h2 := hok.2; omega
      obtain ⟨p, hp⟩ : ∃ p, a * b = p := ⟨_, rfl⟩
      rw [← Int.natCast_mul, hp] at hsq hpb hne
      have hp1 : 1 < p := by omega
      obtain ⟨bs, hb1, hb2, hch, hb3, hb4⟩ := cheap_eq hab.1 hab.2 (by rw [hp]; exact hp1)
      rw [hp] at hb2 hb3
      have hminv : minTo (fun j => E a b (j + 1)) (p - 1 - 1) = E a b bs := by
        obtain ⟨h1, j, h2, h3⟩ := minTo_least (fun j => E a b (j + 1)) (p - 1 - 1)
        have h4 := h1 (bs - 1) (by omega)
        rw [show bs - 1 + 1 = bs by omega] at h4
        have h5 := hb3 (j + 1) (by omega) (by omega)
        omega
      have hrd : ∀ j : Nat, j < p - 1 → rd (tabl (fun j => E a b (j + 1)) (p - 1)) (j : Int) = E a b (j + 1) := fun j hj => by rw [tabl_rd _ _ (by omega) (by omega), Int.toNat_natCast]
      obtain ⟨kx, hkx⟩ := (index_l0 (tabl (fun j => E a b (j + 1)) (p - 1)) (E a b bs) (by rw [tabl_length]; omega) (bs - 1) (by rw [tabl_length]; omega) (by rw [hrd _ (by omega), show bs - 1 + 1 = bs by omega]) (fun j hj => by rw [hrd _ (by omega)]; have := hb4 (j + 1) (by omega) (by omega); omega) (bs - 1) 0 (by omega)).rounds
      rw [hch]
      have hof := fun bm W => of_any bm _ (a : Int) (b : Int) W hok (Nat.le_refl _)
      have HOF := Aside0.mk hof
      have hmm := @run_makeMap Try.prog
      obtain ⟨z, hz⟩ : ∃ z, E a b bs = z := ⟨_, rfl⟩
      have hpt : ((p : Int) == 1) = false := beq_eq_false_iff_ne.2 (by omega)
      have hidx : ∀ (W : World) (g : Nat), (∀ j, j < p - 1 → W.cell? ⟨g, 1 + j, none⟩ = some (.int .i64 (E a b (j + 1)))) → Calls Try.prog 34 #[.slice (some ⟨g, 1, none⟩) (p - 1) p, .int .i64 z] W fun e w' => e = .returned (.int .i64 ((bs - 1 : Nat) : Int)) ∧ Drawn0 W w' := fun W g hc => by
        have hC := C_at W g 1 (tabl (fun j => E a b (j + 1)) (p - 1)) (by rw [tabl_length]; omega) (fun i hi => by
          rw [tabl_length] at hi
          rw [hc i hi]
          simp [tabl])
        have h := slices_Index_int_int.calls kx (some ⟨g, 1, none⟩) p (tabl (fun j => E a b (j + 1)) (p - 1)) (E a b bs) _ W hC (by rw [tabl_length]; omega) hkx
        rw [tabl_length, hz] at h
        exact h
      have hmin : ∀ (W : World) (g : Nat), (∀ j, j < p - 1 → W.cell? ⟨g, 1 + j, none⟩ = some (.int .i64 (E a b (j + 1)))) → Calls Try.prog 33 #[.slice (some ⟨g, 1, none⟩) (p - 1) p] W fun e w' => e = .returned (.int .i64 z) ∧ w' = W := fun W g hc => by
        have h := min_any g (p - 1) p (fun j => E a b (j + 1)) W (by omega) (by omega) hc
        rw [hminv, hz] at h
        exact h
      rw [hz]
      have HP := Aside0.mk hp
      have HIDX := Aside0.mk hidx
      have HMIN := Aside0.mk hmin
      have b1 : (1 : Int) ≤ (p : Int) := by omega
      have HB := Aside0.mk (And.intro hb1 hb2)
      clear hof hz hp hok hidx hmin hkx hrd hminv hb3 hb4 hch hab hne hb1 hb2
      go_enter Try.func10, Try.ntmps10
      go_wp2_with (first
        | (go_at_call 30; refine (hib _).mono ?_; rintro e w2 ⟨rfl, hb2⟩; have s2 := boxed_below (boxed w (.int .i64 (a : Int)) (.int .i64 (b : Int))) hb2; have c0 := s2.1; have c1 := s2.2.1; have HS2 := Aside0.mk s2; clear s2 hb2)
        | (go_at_call 31; refine (hsq _).mono ?_; rintro e w3 ⟨rfl, hb3⟩; have s3 := boxed_below HS2.out hb3; have l3 : w.heap.size < w3.heap.size := World.block_lt_of_cell? _ _ s3.1; have k0 := cell_grown s3.1 (World.grownBy_alloc w3 (.map #[] 0) none) (by simp); have k1 := cell_grown s3.2.1 (World.grownBy_alloc w3 (.map #[] 0) none) (by simp); have HS3 := Aside0.mk s3; clear s3 hb3)
        | (go_at_call 32; refine (HOF.out _ _ (new_memo _)).mono ?_; rintro e w5 ⟨g, rfl, hgot⟩; have hrow := hgot.row; unfold CostRow at hrow; simp only [Int.toNat_natCast] at hrow; rw [HP.out] at hrow; rw [show (a : Int).toNat * (b : Int).toNat = p from HP.out]; have HROW := Aside0.mk hrow; have HGOT := Aside0.mk hgot; clear hrow hgot)
        | (go_at_call 33; refine (HMIN.out _ _ (fun j hj => by rw [Nat.add_comm]; exact HROW.out.cell (j + 1) (by omega) trivial)).mono ?_; rintro e w6 ⟨rfl, hw6⟩; subst hw6)
        | (go_at_call 34; refine (HIDX.out _ _ (fun j hj => by rw [Nat.add_comm]; exact HROW.out.cell (j + 1) (by omega) trivial)).mono ?_; rintro e w7 ⟨rfl, ⟨nd, rfl⟩⟩))
      have hbsw : wrap64 (((bs - 1 : Nat) : Int) + 1) = (bs : Int) := by have := HB.out; unfold wrap64; omega
      rw [hbsw]
      refine bodyPost_ret (v := .tuple #[.int .i64 bs, .int .i64 z, .bool true]) (by simp [results, Try.results10, go_sem]) rfl ⟨rfl, pw_below_drewN (eat_below (below_alloc' HS3.out.2.2) HGOT.out (Nat.le_of_lt l3) (Nat.le_refl _)) _⟩
  · rw [decide_eq_false hok] at hib
    rw [if_neg (fun h => hok h.1)] at h
    simp only [Prod.mk.injEq] at h
    obtain ⟨rfl, rfl, rfl⟩ := h
    clear hok
    go_enter Try.func10, Try.ntmps10
    go_wp2_with (go_at_call 30; refine (hib _).mono ?_; rintro e w2 ⟨rfl, hb2⟩; have HB2 := Aside0.mk hb2; clear hb2)
    refine bodyPost_ret (v := .tuple #[.int .i64 0, .int .i64 0, .bool false]) (by simp [results, Try.results10, go_sem]) rfl ⟨rfl, below_then ((Below.refl _ _).alloc (Nat.le_refl _) _) (by simp) HB2.out⟩
end Go.Proofs.Ytkoplphcdkmilaa.All
end
section
namespace Go.Proofs.Ytkoplphcdkmilaa.All
open Go.RowKit Go.Proofs.YtkoplphcdkmilaaW.PrintWords Go.Proofs.YtkoplphcdkmilaaW.PrintLast Go.Proofs.YtkoplphcdkmilaaW.PrintMore Go.Shelf Go.Maps Go.Joins Go.Proofs.Ytkoplphcdkmilaa.PEv Go.Proofs.Ytkoplphcdkmilaa.PCount Go.Proofs.Ytkoplphcdkmilaa.GBar Go.Proofs.Ytkoplphcdkmilaa.PImpl Go.Proofs.Ytkoplphcdkmilaa.GTab Go.Proofs.Ytkoplphcdkmilaa.PEat Go.Proofs.Ytkoplphcdkmilaa.GEat
set_option linter.unusedVariables false
set_option linter.unusedSimpArgs false

theorem hit_good {w h s i : Nat} {c : Bool × Nat} (hw : 1 ≤ w) (hh : 1 ≤ h) (hc : c ∈ cutsN w h) (h0 : 0 < s) (h1 : s < w * h) (hi : i ≤ sq (one w h c)) (his : i ≤ s) (hi2 : s - i ≤ sq (two w h c))
    (he : price w h c.1 + E (one w h c).1 (one w h c).2 i + E (two w h c).1 (two w h c).2 (s - i) = E w h s) : good w h s c = true := by
  have h2 := (SE_least hc hw hh (k := s) (by omega)).2 _ ⟨i, his, hi, hi2, rfl⟩
  have h3 := E_le_part hc hw hh h0 h1
  exact decide_eq_true (by omega)
theorem no_hit {w h s : Nat} {c : Bool × Nat} (hw : 1 ≤ w) (hh : 1 ≤ h) (hc : c ∈ cutsN w h) (h1 : s < w * h)
    (hn : ∀ i, i ≤ sq (one w h c) → i ≤ s → s - i ≤ sq (two w h c) → price w h c.1 + E (one w h c).1 (one w h c).2 i + E (two w h c).1 (two w h c).2 (s - i) ≠ E w h s) : good w h s c = false := by
  obtain ⟨i, i1, i2, i3, he⟩ := (SE_least hc hw hh (k := s) (by omega)).1
  have h2 := hn i i2 i1 i3
  exact decide_eq_false (by rw [he]; omega)
abbrev HdF (bm : Nat) (a b : Int) (w7 : World) (nb n11 n12 n13 : Nat) (d x1 y1 x2 y2 : Value) (w' : World) : Prop :=
  w'.cell? ⟨nb, 0, none⟩ = some (.int .i64 a) ∧ w'.cell? ⟨nb, 1, none⟩ = some (.int .i64 b) ∧ w'.cell? ⟨n11, 0, none⟩ = some d ∧ w'.cell? ⟨n12, 0, none⟩ = some x1 ∧ w'.cell? ⟨n12, 1, none⟩ = some y1 ∧ w'.cell? ⟨n13, 0, none⟩ = some x2 ∧ w'.cell? ⟨n13, 1, none⟩ = some y2 ∧ MemoE w' bm ∧ w7.grownBy w' (some bm)
theorem HdF.new {bm : Nat} {a b : Int} {w7 w' w'' : World} {nb n11 n12 n13 : Nat} {d x1 y1 x2 y2 : Value} (h : HdF bm a b w7 nb n11 n12 n13 d x1 y1 x2 y2 w') (hg : w'.grownBy w'' none) : HdF bm a b w7 nb n11 n12 n13 d x1 y1 x2 y2 w'' :=
  ⟨cell_grown h.1 hg (by simp), cell_grown h.2.1 hg (by simp), cell_grown h.2.2.1 hg (by simp), cell_grown h.2.2.2.1 hg (by simp), cell_grown h.2.2.2.2.1 hg (by simp), cell_grown h.2.2.2.2.2.1 hg (by simp), cell_grown h.2.2.2.2.2.2.1 hg (by simp), h.2.2.2.2.2.2.2.1.new hg, World.grownBy.trans h.2.2.2.2.2.2.2.2 (grown_none hg _)⟩
theorem HdF.call {bm : Nat} {a b : Int} {w7 w' w'' : World} {nb n11 n12 n13 : Nat} {d x1 y1 x2 y2 : Value} (h : HdF bm a b w7 nb n11 n12 n13 d x1 y1 x2 y2 w') (h0 : nb ≠ bm) (h1 : n11 ≠ bm) (h2 : n12 ≠ bm) (h3 : n13 ≠ bm) {x y : Int} {g : Nat} (hc : GotE bm x y w' w'' g) : HdF bm a b w7 nb n11 n12 n13 d x1 y1 x2 y2 w'' :=
  ⟨cell_grown h.1 hc.gr (by simp; exact h0), cell_grown h.2.1 hc.gr (by simp; exact h0), cell_grown h.2.2.1 hc.gr (by simp; exact h1), cell_grown h.2.2.2.1 hc.gr (by simp; exact h2), cell_grown h.2.2.2.2.1 hc.gr (by simp; exact h2), cell_grown h.2.2.2.2.2.1 hc.gr (by simp; exact h3), cell_grown h.2.2.2.2.2.2.1 hc.gr (by simp; exact h3), hc.m, World.grownBy.trans h.2.2.2.2.2.2.2.2 hc.gr⟩

def impl_FirstToEat.f (a0_0 : Int) (a0_1 : Int) (a1 : Int) : Option (Bool × Int × Bool) := some (if okB a0_0 a0_1 ∧ 0 < a1 ∧ a1 < a0_0 * a0_1 then ((firstC a0_0.toNat a0_1.toNat a1.toNat).1, ((firstC a0_0.toNat a0_1.toNat a1.toNat).2 : Int), true) else (false, 0, false))
set_option maxHeartbeats 8000000 in
set_option maxRecDepth 100000 in
theorem firstI_any (a b s : Nat) (hok : okB (a : Int) (b : Int)) (h0 : 0 < s) (h1 : s < a * b) (w : World) :
    Calls Try.prog 17 #[.agg #[.int .i64 a, .int .i64 b], .int .i64 s] w fun e w' => e = .returned (.tuple #[.bool (firstC a b s).1, .int .i64 (firstC a b s).2, .bool true]) ∧ Below w.heap.size w w' := by
  have hu25 := Try.underlying25
  have hib := fun w => impl_isBar.calls a b _ w (isBar_eq a b)
  rw [decide_eq_true hok] at hib
  have hsq := fun w => impl_Bar_squares.calls (a : Int) (b : Int) _ w (squares_eq hok)
  have hpb := prod_in hok
  have hab : (1 ≤ a ∧ a ≤ 12) ∧ 1 ≤ b ∧ b ≤ 12 := by have h1 := hok.1; have h2 := hok.2; omega
  have hsome := good_some hab.1.1 hab.2.1 h0 h1
  obtain ⟨p, hp⟩ : ∃ p, a * b = p := ⟨_, rfl⟩
  rw [← Int.natCast_mul, hp] at hsq hpb
  rw [hp] at h1
  have hwi := fun w => impl_within.calls (s : Int) 1 ((p : Int) - 1) _ w (within_eq _ _ _)
  rw [decide_eq_true ⟨by omega, by omega⟩] at hwi
  have hof := fun (bm : Nat) (x y : Int) (W : World) (hx : okB x y) => of_any bm _ x y W hx (Nat.le_refl _)
  have HOF := Aside0.mk hof
  have hmm := @run_makeMap Try.prog
  obtain ⟨kc, hkc⟩ := cuts_ev hok
  have hcu := fun w => impl_Bar_cuts.calls kc (a : Int) (b : Int) _ w hkc
  have hlen := cutsZ_length (a : Int) (b : Int)
  simp only [Int.toNat_natCast] at hlen
  obtain ⟨cl, hcl⟩ : ∃ cl, cutsZ (a : Int) (b : Int) = cl := ⟨_, rfl⟩
  obtain ⟨m, hm⟩ : ∃ m, (cutsN a b).length = m := ⟨_, rfl⟩
  have hm22 : m ≤ 22 := by have h1 := cutsN_length a b; omega
  rw [hcl, hm] at hlen
  rw [hcl] at hcu
  obtain ⟨z, hz⟩ : ∃ z, E a b s = z := ⟨_, rfl⟩
  have hzb := E_bound (w := a) (h := b) s hab.1 hab.2
  rw [hz] at hzb
  have HP := Aside0.mk hp
  have HZ := Aside0.mk hz
  have HAB := Aside0.mk hab
  have HSOME := Aside0.mk hsome
  have HOK := Aside0.mk hok
  have HCL := Aside0.mk hcl
  have HLEN := Aside0.mk hlen
  have HMM := Aside0.mk hm
  have b1 : (s : Int) < (p : Int) + 1 := by omega
  have b2 : s < p + 1 := by omega
  clear hof hp hz hsome hok hcl hlen hm hkc hab
  go_enter Try.func17, Try.ntmps17
  go_wp2_with (first
    | (go_at_call 30; refine (hib _).mono ?_; rintro e w2 ⟨rfl, hb2⟩; have s2 := boxed_below (boxed w (.int .i64 (a : Int)) (.int .i64 (b : Int))) hb2; have c0 := s2.1; have c1 := s2.2.1; have HS2 := Aside0.mk s2; clear s2 hb2)
    | (go_at_call 31; refine (hsq _).mono ?_; rintro e w3 ⟨rfl, hb3⟩; have s3 := boxed_below HS2.out hb3; have l3 : w.heap.size < w3.heap.size := World.block_lt_of_cell? _ _ s3.1; have HS3 := Aside0.mk s3; clear s3 hb3)
    | (go_at_call 37; refine (hwi _).mono ?_; rintro e w4 ⟨rfl, ⟨nd, rfl⟩⟩; have HS4 : Aside0 ((w3.drewN nd).cell? ⟨w.heap.size, 0, none⟩ = some (.int .i64 (a : Int)) ∧ (w3.drewN nd).cell? ⟨w.heap.size, 1, none⟩ = some (.int .i64 (b : Int)) ∧ Below w.heap.size w (w3.drewN nd)) := ⟨HS3.out.1, HS3.out.2.1, pw_below_drewN HS3.out.2.2 _⟩; have k0 := cell_grown HS4.out.1 (World.grownBy_alloc (w3.drewN nd) (.map #[] 0) none) (by simp); have k1 := cell_grown HS4.out.2.1 (World.grownBy_alloc (w3.drewN nd) (.map #[] 0) none) (by simp))
    | (go_at_call 32; refine (HOF.out _ _ _ _ HOK.out (new_memo _)).mono ?_; rintro e w5 ⟨g, rfl, hgot⟩; have hrow := hgot.row; unfold CostRow at hrow; simp only [Int.toNat_natCast] at hrow; rw [HP.out] at hrow; have c2 := hrow.cell s (by omega) trivial; rw [HZ.out] at c2; rw [show (a : Int).toNat * (b : Int).toNat = p from HP.out]; have j0 := cell_grown k0 hgot.gr (by show some w.heap.size ≠ some w3.heap.size; simp; omega); have j1 := cell_grown k1 hgot.gr (by show some w.heap.size ≠ some w3.heap.size; simp; omega); have HJ := Aside0.mk (And.intro j0 j1); have HGOT := Aside0.mk hgot; clear hrow hgot)
    | (go_at_call 39; refine (hcu _).mono ?_; rintro e w6 ⟨v6, rfl, hr6, hb6⟩; obtain ⟨A5, c5, rfl, hC5⟩ := R_where0 hr6; rw [HLEN.out] at hC5 ⊢; have HC5 := Aside0.mk hC5; have HB6 := Aside0.mk hb6; clear hr6 hb6 hC5))
  have HG6 := Aside0.mk (grown_of_below HB6.out none)
  have HM6 := Aside0.mk (HGOT.out.m.new HG6.out)
  have HBX6 : Aside0 (w6.cell? ⟨w.heap.size, 0, none⟩ = some (.int .i64 (a : Int)) ∧ w6.cell? ⟨w.heap.size, 1, none⟩ = some (.int .i64 (b : Int)) ∧ Below w.heap.size w w6) := ⟨cell_grown HJ.out.1 HG6.out (by simp), cell_grown HJ.out.2 HG6.out (by simp), below_new (eat_below (below_alloc' HS4.out.2.2) HGOT.out (Nat.le_of_lt l3) (Nat.le_refl _)) HG6.out (by simp) (Nat.le_refl _)⟩
  have HB5x : Aside0 (w3.heap.size < w5.heap.size) := ⟨by have := HGOT.out.gr.size; simp at this; omega⟩
  rw [show (w3.drewN nd).heap.size = w3.heap.size from rfl] at HM6
  obtain ⟨bm, hbm⟩ : ∃ bm, w3.heap.size = bm := ⟨_, rfl⟩
  obtain ⟨nb, hnb⟩ : ∃ nb, w.heap.size = nb := ⟨_, rfl⟩
  have HGB : Aside0 (0 < m → ∃ g, A5 = some ⟨g, 0, none⟩ ∧ bm < g) := ⟨fun h0 => by
    obtain ⟨g, h1, h2⟩ := HC5.out.2 h0
    exact ⟨g, h1, by have := HB5x.out; omega⟩⟩
  rw [hbm] at HM6 l3 ⊢
  rw [hnb] at HBX6 l3 ⊢
  have HNB := Aside0.mk hnb
  clear HG6 HB6 HJ HGOT c0 c1 c2 j0 j1 k0 k1 HS2 HS3 HS4 HB5x hbm hnb hcu hib hsq hwi
  go_loopg [41] m (fun gg s41 wx => ∃ i : Nat, i ≤ m ∧ m - i ≤ gg ∧ s41 = .int .i64 i ∧ Aside0 (∀ m', m' < i → ∀ c', (cutsN a b)[m']? = some c' → good a b s c' = false) ∧ Aside0 (MemoE wx bm) ∧ Aside0 (w6.grownBy wx (some bm)))
  case atStart => exact ⟨0, by omega, by omega, rfl, ⟨fun m' h => by omega⟩, HM6, ⟨World.grownBy.refl _ _⟩⟩
  case round =>
    clear HM6
    obtain ⟨i, hi, hgg, rfl, HNO, HM, HG⟩ := hrel
    by_cases hlt : i < m
    · have hltz : (i : Int) < (m : Int) := by omega
      have hin : i < (cutsN a b).length := by rw [HMM.out]; exact hlt
      have hrd := cutsZ_at HOK.out i hin
      simp only [Int.toNat_natCast] at hrd
      obtain ⟨g3, hA, hg3⟩ := HGB.out (by omega)
      subst hA
      obtain ⟨ad, e, hx0, hx1⟩ := at_T65 HC5.out.1 (i : Int) (by omega) hltz
      cases e
      rw [← HCL.out, hrd] at hx0 hx1
      have hget : (cutsN a b)[i]? = some (cutsN a b)[i] := List.getElem?_eq_getElem hin
      have hmem : (cutsN a b)[i] ∈ cutsN a b := List.getElem_mem hin
      have hbq := broken_eq HOK.out hmem
      obtain ⟨⟨p1, p2, p3, p4⟩, p5, p6, p7, p8, p9, p10, p11⟩ := parts hmem HAB.out.1.1 HAB.out.2.1
      obtain ⟨c, hc⟩ : ∃ c, (cutsN a b)[i] = c := ⟨_, rfl⟩
      simp only [Int.toNat_natCast] at hbq
      rw [hc] at hx0 hx1 hmem hbq p1 p2 p3 p4 p5 p6 p7 p8 p9 p10 p11 hget
      obtain ⟨⟨x1, y1⟩, he1⟩ : ∃ p, one a b c = p := ⟨_, rfl⟩
      obtain ⟨⟨x2, y2⟩, he2⟩ : ∃ p, two a b c = p := ⟨_, rfl⟩
      rw [he1] at hbq p1 p2 p5 p7 p8 p11
      rw [he2] at hbq p3 p4 p6 p9 p10 p11
      have hbn : g3 ≠ bm := by omega
      simp only [Int.toNat_natCast, add_plain, Nat.zero_add] at hx0 hx1
      replace hx0 := cell_grown hx0 HG.out (by simp; omega)
      replace hx1 := cell_grown hx1 HG.out (by simp; omega)
      have cb0 := cell_grown HBX6.out.1 HG.out (by simp; omega)
      have cb1 := cell_grown HBX6.out.2.1 HG.out (by simp; omega)
      have hnbl := World.block_lt_of_cell? _ _ cb0
      simp only at hnbl
      have hbl : bm < wr.heap.size := by
        obtain ⟨n, D, ho, _⟩ := HM.out
        exact ho.lt
      have hok1 : okB (x1 : Int) (y1 : Int) := by have h1 := HAB.out; simp only at p1 p2 p7 p8; exact ⟨by omega, by omega⟩
      have hok2 : okB (x2 : Int) (y2 : Int) := by have h1 := HAB.out; simp only at p3 p4 p9 p10; exact ⟨by omega, by omega⟩
      have HOK1 := Aside0.mk hok1
      have HOK2 := Aside0.mk hok2
      obtain ⟨P1, hP1⟩ : ∃ P1, x1 * y1 = P1 := ⟨_, rfl⟩
      obtain ⟨P2, hP2⟩ : ∃ P2, x2 * y2 = P2 := ⟨_, rfl⟩
      have hpq : P1 + P2 = p := by rw [← hP1, ← hP2, ← HP.out]; exact p11
      have HGET := Aside0.mk hget
      have HMEM := Aside0.mk hmem
      have HE12 := Aside0.mk (And.intro he1 he2)
      obtain ⟨d, t⟩ := c
      have hbr := fun w => impl_Bar_broken.calls (a : Int) (b : Int) d (t : Int) _ _ _ _ _ w hbq
      have hln := fun w => impl_Bar_line.calls (a : Int) (b : Int) d _ w (line_eq (a : Int) (b : Int) d)
      clear hbq hmem hc he1 he2 p1 p2 p3 p4 p5 p6 p7 p8 p9 p10 p11 hok1 hok2 hrd hin hget hbn hg3
      go_upto_region 9 with (go_at_call 36; refine (hbr _).mono ?_; rintro e w6' ⟨rfl, hb6⟩; have HB6 := Aside0.mk hb6; clear hb6)
      have HG7 : Aside0 (wr.grownBy ((w6'.alloc (.cells #[.int .i64 x1, .int .i64 y1] 25)).alloc (.cells #[.int .i64 x2, .int .i64 y2] 25)) none) := ⟨World.grownBy.trans (World.grownBy_alloc _ _ _) (World.grownBy.trans (grown_of_below HB6.out none) (World.grownBy.trans (World.grownBy_alloc _ _ _) (World.grownBy_alloc _ _ _)))⟩
      have HN11 : Aside0 (((w6'.alloc (.cells #[.int .i64 x1, .int .i64 y1] 25)).alloc (.cells #[.int .i64 x2, .int .i64 y2] 25)).heap[wr.heap.size]? = some (.cells #[.bool d, .int .i64 (t : Int)] 65 (0, 0))) := ⟨blk_alloc (blk_alloc (blk_below (blk_new wr (.cells #[.bool d, .int .i64 (t : Int)] 65)) HB6.out) _) _⟩
      have HN12 : Aside0 (((w6'.alloc (.cells #[.int .i64 x1, .int .i64 y1] 25)).alloc (.cells #[.int .i64 x2, .int .i64 y2] 25)).heap[w6'.heap.size]? = some (.cells #[.int .i64 x1, .int .i64 y1] 25 (0, 0))) := ⟨blk_alloc (blk_new w6' _) _⟩
      have HN13 : Aside0 (((w6'.alloc (.cells #[.int .i64 x1, .int .i64 y1] 25)).alloc (.cells #[.int .i64 x2, .int .i64 y2] 25)).heap[w6'.heap.size + 1]? = some (.cells #[.int .i64 x2, .int .i64 y2] 25 (0, 0))) := ⟨by have := blk_new (w6'.alloc (.cells #[.int .i64 x1, .int .i64 y1] 25)) (.cells #[.int .i64 x2, .int .i64 y2] 25); simpa using this⟩
      have HZZ : Aside0 (bm < wr.heap.size ∧ wr.heap.size < w6'.heap.size) := ⟨by have := HB6.out.size; simp at this; omega⟩
      obtain ⟨n11, hn11⟩ : ∃ n11, wr.heap.size = n11 := ⟨_, rfl⟩
      obtain ⟨n12, hn12⟩ : ∃ n12, w6'.heap.size = n12 := ⟨_, rfl⟩
      rw [hn12] at HN12 HN13 HZZ ⊢
      rw [hn11] at HN11 HZZ ⊢
      generalize (w6'.alloc (.cells #[.int .i64 x1, .int .i64 y1] 25)).alloc (.cells #[.int .i64 x2, .int .i64 y2] 25) = w7 at HG7 HN11 HN12 HN13 ⊢
      have cb0' := cell_grown cb0 HG7.out (by simp)
      have cb1' := cell_grown cb1 HG7.out (by simp)
      have HBX7 := Aside0.mk (And.intro cb0' cb1')
      clear HB6 hn11 hn12 hx0 hx1 cb0 cb1 cb0' cb1' hnbl hbl hbr
      have HM7 := Aside0.mk (HM.out.new HG7.out)
      have h0' : nb ≠ bm := by omega
      have h1' : n11 ≠ bm := by have := HZZ.out; omega
      have h2' : n12 ≠ bm := by have := HZZ.out; omega
      have h3' : n12 + 1 ≠ bm := by have := HZZ.out; omega
      have hc1 : ∀ w', HdF bm a b w7 nb n11 n12 (n12 + 1) (.bool d) (.int .i64 x1) (.int .i64 y1) (.int .i64 x2) (.int .i64 y2) w' → Calls Try.prog 32 #[.map (some bm), .agg #[.int .i64 x1, .int .i64 y1]] w' fun e w'' => ∃ g, e = .returned (.slice (some ⟨g, 0, none⟩) (P1 + 1) (P1 + 1)) ∧ HdF bm a b w7 nb n11 n12 (n12 + 1) (.bool d) (.int .i64 x1) (.int .i64 y1) (.int .i64 x2) (.int .i64 y2) w'' ∧ Aside0 (Row 3 (P1 + 1) (fun _ => True) (fun k => .int .i64 (E x1 y1 k)) w'' g ∧ g ≠ bm) ∧ Aside0 (w'.grownBy w'' (some bm)) := fun w' h =>
        (HOF.out bm x1 y1 w' HOK1.out h.2.2.2.2.2.2.2.1).mono fun e w'' ⟨g, e1, e2⟩ => ⟨g, by rw [← hP1]; exact e1, h.call h0' h1' h2' h3' e2, ⟨by rw [← hP1]; exact e2.row, CostRow.ne e2.row e2.m⟩, ⟨e2.gr⟩⟩
      have hc2 : ∀ w', HdF bm a b w7 nb n11 n12 (n12 + 1) (.bool d) (.int .i64 x1) (.int .i64 y1) (.int .i64 x2) (.int .i64 y2) w' → Calls Try.prog 32 #[.map (some bm), .agg #[.int .i64 x2, .int .i64 y2]] w' fun e w'' => ∃ g, e = .returned (.slice (some ⟨g, 0, none⟩) (P2 + 1) (P2 + 1)) ∧ HdF bm a b w7 nb n11 n12 (n12 + 1) (.bool d) (.int .i64 x1) (.int .i64 y1) (.int .i64 x2) (.int .i64 y2) w'' ∧ Aside0 (Row 3 (P2 + 1) (fun _ => True) (fun k => .int .i64 (E x2 y2 k)) w'' g ∧ g ≠ bm) ∧ Aside0 (w'.grownBy w'' (some bm)) := fun w' h =>
        (HOF.out bm x2 y2 w' HOK2.out h.2.2.2.2.2.2.2.1).mono fun e w'' ⟨g, e1, e2⟩ => ⟨g, by rw [← hP2]; exact e1, h.call h0' h1' h2' h3' e2, ⟨by rw [← hP2]; exact e2.row, CostRow.ne e2.row e2.m⟩, ⟨e2.gr⟩⟩
      obtain ⟨ln, hln2⟩ : ∃ ln, (if d = true then (b : Int) else (a : Int)) = ln := ⟨_, rfl⟩
      rw [hln2] at hln
      have HLN := Aside0.mk hln2
      have s0 : HdF bm a b w7 nb n11 n12 (n12 + 1) (.bool d) (.int .i64 x1) (.int .i64 y1) (.int .i64 x2) (.int .i64 y2) w7.drew :=
        HdF.new ⟨HBX7.out.1, HBX7.out.2, (blk_cell HN11.out 0).trans rfl, (blk_cell HN12.out 0).trans rfl, (blk_cell HN12.out 1).trans rfl, (blk_cell HN13.out 0).trans rfl, (blk_cell HN13.out 1).trans rfl, HM7.out, World.grownBy.refl _ _⟩ (grown_drew w7)
      have HN11b : Aside0 (n11 ≠ bm) := ⟨h1'⟩
      clear hln2 h0' h1' h2' h3' HM7
      go_region_held3 (fun w' => w'.cell? ⟨nb, 0, none⟩ = some (.int .i64 (a : Int)) ∧ w'.cell? ⟨nb, 1, none⟩ = some (.int .i64 (b : Int)) ∧ w'.cell? ⟨n11, 0, none⟩ = some (.bool d) ∧ w'.cell? ⟨n12, 0, none⟩ = some (.int .i64 x1) ∧ w'.cell? ⟨n12, 1, none⟩ = some (.int .i64 y1) ∧ w'.cell? ⟨n12 + 1, 0, none⟩ = some (.int .i64 x2) ∧ w'.cell? ⟨n12 + 1, 1, none⟩ = some (.int .i64 y2) ∧ MemoE w' bm ∧ w7.grownBy w' (some bm)) (first | assumption)
        (first
          | (go_at_call 32; (with_reducible refine (hc1 _ (by assumption)).mono ?_); rintro e w8 ⟨g1, rfl, s8, HR1, HK1⟩)
          | (go_at_call 32; (with_reducible refine (hc2 _ (by assumption)).mono ?_); rintro e w9 ⟨g2, rfl, s9, HR2, HK2⟩)
          | (go_at_call 40; (with_reducible refine (hln _).mono ?_); rintro e w10 ⟨rfl, hb10⟩; have s10 := HdF.new (by assumption) (grown_of_below hb10 none); have HB10 := Aside0.mk hb10; clear hb10))
      have HM10 := Aside0.mk s10.2.2.2.2.2.2.2.1
      have HG10 := Aside0.mk (World.grownBy.trans HG.out (World.grownBy.trans (grown_none HG7.out _) s10.2.2.2.2.2.2.2.2))
      have hg10 := grown_of_below HB10.out none
      have HR1x := Aside0.mk ((HR1.out.1.kept HK2.out (by simp; exact HR1.out.2)).new hg10)
      have HR2x := Aside0.mk (HR2.out.1.new hg10)
      have HN11x := Aside0.mk (blk_grown' HN11.out s10.2.2.2.2.2.2.2.2 (by simp; exact HN11b.out))
      have hsq1 : sq (one a b (d, t)) = P1 := by unfold sq; rw [HE12.out.1]; exact hP1
      have hsq2 : sq (two a b (d, t)) = P2 := by unfold sq; rw [HE12.out.2]; exact hP2
      have HSQ := Aside0.mk (And.intro hsq1 hsq2)
      have hll : ln * ln = price a b d := by
        rw [← HLN.out]
        unfold price
        cases d with
        | true => simp only [if_true]; rw [Int.natCast_mul]
        | false => simp only [Bool.false_eq_true, if_false]; rw [Int.natCast_mul]
      have hpc := price_in (w := a) (h := b) d HAB.out.1 HAB.out.2
      obtain ⟨pc, hpce⟩ : ∃ pc, price a b d = pc := ⟨_, rfl⟩
      rw [hpce] at hll hpc
      have HPC := Aside0.mk hpce
      have hp1l : P1 ≤ 144 ∧ P2 ≤ 144 := by omega
      clear s0 s8 s9 s10 hg10 hc1 hc2 hln hpce hP1 hP2 hsq1 hsq2 HR1 HR2 HB10 HK1 HK2 HN11 HN12 HN13 HBX7 HM HG HG7
      go_wp2
      go_loopg [67] (P1 + 1) (fun gg s67 wy => ∃ i0 : Nat, i0 ≤ P1 + 1 ∧ P1 + 1 - i0 ≤ gg ∧ s67 = .int .i64 i0 ∧ Aside0 (∀ j, j < i0 → j ≤ s → s - j ≤ P2 → pc + E x1 y1 j + E x2 y2 (s - j) ≠ z) ∧ Aside0 (w10.grownBy wy none))
      case atStart => exact ⟨0, by omega, by omega, rfl, ⟨fun j h => by omega⟩, ⟨World.grownBy.refl _ _⟩⟩
      case round =>
        obtain ⟨i0, hi0, hgg2, rfl, HNH, HG⟩ := hrel
        by_cases hlti : i0 < P1 + 1
        · have hltiz : (i0 : Int) < (P1 : Int) + 1 := by omega
          have d1 := (HR1x.out.new HG.out).cell i0 hlti trivial
          have hm1 := E_bound (w := x1) (h := y1) i0 (by have h1 := HOK1.out.1; omega) (by have h1 := HOK1.out.2; omega)
          obtain ⟨m1, hm1e⟩ : ∃ m1, E x1 y1 i0 = m1 := ⟨_, rfl⟩
          rw [hm1e] at d1 hm1
          have HM1 := Aside0.mk hm1e
          clear hm1e
          have hwi := fun w => impl_within.calls ((s : Int) - (i0 : Int)) 0 (P2 : Int) _ w (within_eq _ _ _)
          have HN := Aside0.mk (blk_grown' HN11x.out HG.out (by simp))
          by_cases hk : i0 ≤ s ∧ s - i0 ≤ P2
          · rw [decide_eq_true ⟨by omega, by omega⟩] at hwi
            obtain ⟨u, hu⟩ : ∃ u, s - i0 = u := ⟨_, rfl⟩
            have hus : (s : Int) - (i0 : Int) = (u : Int) := by omega
            rw [hus] at hwi
            have hul : u < P2 + 1 := by omega
            have hulz : (u : Int) < (P2 : Int) + 1 := by omega
            have d2 := (HR2x.out.new HG.out).cell u hul trivial
            have hm2 := E_bound (w := x2) (h := y2) u (by have h1 := HOK2.out.1; omega) (by have h1 := HOK2.out.2; omega)
            obtain ⟨m2, hm2e⟩ : ∃ m2, E x2 y2 u = m2 := ⟨_, rfl⟩
            rw [hm2e] at d2 hm2
            obtain ⟨own, hown⟩ : ∃ own, pc + m1 + m2 = own := ⟨_, rfl⟩
            have HU := Aside0.mk (And.intro hu (And.intro hk (And.intro hm2e hown)))
            by_cases hz : own = z
            · have hzt : (own == z) = true := beq_iff_eq.2 hz
              have hgood := hit_good (w := a) (h := b) (s := s) (i := i0) HAB.out.1.1 HAB.out.2.1 HMEM.out h0 (by rw [HP.out]; exact h1) (by rw [HSQ.out.1]; omega) hk.1 (by rw [HSQ.out.2]; omega) (by rw [HE12.out.1, HE12.out.2, HPC.out, HM1.out, hu, hm2e, HZ.out, hown]; exact hz)
              have hf := first_at HGET.out hgood HNO.out
              have HF := Aside0.mk hf
              clear hu hk hm2e hz hgood hf
              have e0 : wr.cell? ⟨n11, 0, none⟩ = some (.bool d) := (blk_cell HN.out 0).trans rfl
              have e1 : wr.cell? ⟨n11, 1, none⟩ = some (.int .i64 (t : Int)) := (blk_cell HN.out 1).trans rfl
              go_wp2_with (go_at_call 37; refine (hwi _).mono ?_; rintro e w11 ⟨rfl, ⟨nd2, rfl⟩⟩)
              go_quiet (fail)
              go_wp2
              refine bodyPost_ret (v := .tuple #[.bool d, .int .i64 t, .bool true]) (by simp [results, Try.results17, go_sem]) rfl ⟨by rw [HF.out], ?_⟩
              rw [HNB.out]
              exact pw_below_drewN (pw_below_drewN (below_new (below_new HBX6.out.2.2 HG10.out (fun r hr => by injection hr with hr; omega) (by rw [HNB.out]; exact Nat.le_refl _)) HG.out (by simp) (by rw [HNB.out]; exact Nat.le_refl _)) _) _
            · have hzt : (own == z) = false := beq_eq_false_iff_ne.2 hz
              have HNH2 : Aside0 (∀ j, j < i0 + 1 → j ≤ s → s - j ≤ P2 → pc + E x1 y1 j + E x2 y2 (s - j) ≠ z) := ⟨fun j j1 j2 j3 => by
                by_cases he : j = i0
                · rw [he, HM1.out, hu, hm2e, hown]; exact hz
                · exact HNH.out j (by omega) j2 j3⟩
              clear hu hk hm2e hz
              go_wp2_with (go_at_call 37; refine (hwi _).mono ?_; rintro e w11 ⟨rfl, ⟨nd2, rfl⟩⟩)
              go_roundg (P1 + 1 - (i0 + 1))
              case measure => omega
              case rel => exact ⟨i0 + 1, by omega, by omega, by go_num, HNH2, ⟨World.grownBy.trans HG.out (grown_drewN _ _)⟩⟩
          · rw [decide_eq_false (by omega)] at hwi
            have HNH2 : Aside0 (∀ j, j < i0 + 1 → j ≤ s → s - j ≤ P2 → pc + E x1 y1 j + E x2 y2 (s - j) ≠ z) := ⟨fun j j1 j2 j3 => by
              by_cases he : j = i0
              · exact absurd ⟨by omega, by rw [← he]; exact j3⟩ hk
              · exact HNH.out j (by omega) j2 j3⟩
            clear hk
            go_wp2_with (go_at_call 37; refine (hwi _).mono ?_; rintro e w11 ⟨rfl, ⟨nd2, rfl⟩⟩)
            go_roundg (P1 + 1 - (i0 + 1))
            case measure => omega
            case rel => exact ⟨i0 + 1, by omega, by omega, by go_num, HNH2, ⟨World.grownBy.trans HG.out (grown_drewN _ _)⟩⟩
        · obtain rfl : i0 = P1 + 1 := by omega
          have hltiz : ¬ ((P1 + 1 : Nat) : Int) < (P1 : Int) + 1 := by omega
          have hng := no_hit (w := a) (h := b) (s := s) HAB.out.1.1 HAB.out.2.1 HMEM.out (by rw [HP.out]; exact h1) (fun j j1 j2 j3 => by
            rw [HSQ.out.1] at j1
            rw [HSQ.out.2] at j3
            rw [HE12.out.1, HE12.out.2, HPC.out, HZ.out]
            exact HNH.out j (by omega) j2 j3)
          have HNO2 : Aside0 (∀ m', m' < i + 1 → ∀ c', (cutsN a b)[m']? = some c' → good a b s c' = false) := ⟨fun m' hm c' hc' => by
            by_cases he : m' = i
            · rw [he, HGET.out] at hc'
              injection hc' with hc'
              rw [← hc']; exact hng
            · exact HNO.out m' (by omega) c' hc'⟩
          clear hng
          go_wp2
          go_roundg (m - (i + 1))
          case measure => omega
          case rel => exact ⟨i + 1, by omega, by omega, by go_num, HNO2, ⟨HM10.out.new HG.out⟩, ⟨World.grownBy.trans HG10.out (grown_none HG.out _)⟩⟩
    · exfalso
      obtain ⟨c, hc, hg⟩ := HSOME.out
      obtain ⟨n, hn, rfl⟩ := List.mem_iff_getElem.1 hc
      have h2 := HMM.out
      have := HNO.out n (by omega) _ (List.getElem?_eq_getElem hn)
      rw [hg] at this
      cases this

set_option maxHeartbeats 4000000 in
set_option maxRecDepth 100000 in
theorem impl_FirstToEat.calls (a0_0 : Int) (a0_1 : Int) (a1 : Int) (r1 : Bool) (r2 : Int) (r3 : Bool) (w : World) (h : impl_FirstToEat.f a0_0 a0_1 a1 = some (r1, r2, r3)) :
    Calls Try.prog 17 #[.agg #[.int .i64 a0_0, .int .i64 a0_1], .int .i64 a1] w fun e w' => e = .returned (.tuple #[.bool r1, .int .i64 r2, .bool r3]) ∧ Below w.heap.size w w' := by
  unfold impl_FirstToEat.f at h
  replace h := Option.some.inj h
  by_cases hc : okB a0_0 a0_1 ∧ 0 < a1 ∧ a1 < a0_0 * a0_1
  · rw [if_pos hc] at h
    simp only [Prod.mk.injEq] at h
    obtain ⟨rfl, rfl, rfl⟩ := h
    obtain ⟨hok, h0, h1⟩ := hc
    obtain ⟨a, rfl⟩ := Int.eq_ofNat_of_zero_le (a := a0_0) (by have := hok.1; omega)
    obtain ⟨b, rfl⟩ := Int.eq_ofNat_of_zero_le (a := a0_1) (by have := hok.2; omega)
    obtain ⟨s, rfl⟩ := Int.eq_ofNat_of_zero_le (a := a1) (by omega)
    rw [← Int.natCast_mul] at h1
    exact firstI_any a b s hok (by omega) (by omega) w
  · rw [if_neg hc] at h
    simp only [Prod.mk.injEq] at h
    obtain ⟨rfl, rfl, rfl⟩ := h
    have hu25 := Try.underlying25
    have hib := fun w => impl_isBar.calls a0_0 a0_1 _ w (isBar_eq a0_0 a0_1)
    by_cases hok : okB a0_0 a0_1
    · rw [decide_eq_true hok] at hib
      have hsq := fun w => impl_Bar_squares.calls a0_0 a0_1 _ w (squares_eq hok)
      have hpb := prod_in hok
      obtain ⟨q, hq⟩ : ∃ q, a0_0 * a0_1 = q := ⟨_, rfl⟩
      rw [hq] at hsq hpb hc
      have hwi := fun w => impl_within.calls a1 1 (q - 1) _ w (within_eq _ _ _)
      rw [decide_eq_false (fun h => hc ⟨hok, by omega, by omega⟩)] at hwi
      clear hc hok hq
      go_enter Try.func17, Try.ntmps17
      go_wp2_with (first
        | (go_at_call 30; refine (hib _).mono ?_; rintro e w2 ⟨rfl, hb2⟩; have s2 := boxed_below (boxed w (.int .i64 a0_0) (.int .i64 a0_1)) hb2; have c0 := s2.1; have c1 := s2.2.1; have HS2 := Aside0.mk s2; clear s2 hb2)
        | (go_at_call 31; refine (hsq _).mono ?_; rintro e w3 ⟨rfl, hb3⟩; have s3 := boxed_below HS2.out hb3; have HS3 := Aside0.mk s3; clear s3 hb3)
        | (go_at_call 37; refine (hwi _).mono ?_; rintro e w4 ⟨rfl, ⟨nd, rfl⟩⟩))
      refine bodyPost_ret (v := .tuple #[.bool false, .int .i64 0, .bool false]) (by simp [results, Try.results17, go_sem]) rfl ⟨rfl, pw_below_drewN HS3.out.2.2 _⟩
    · rw [decide_eq_false hok] at hib
      clear hc hok
      go_enter Try.func17, Try.ntmps17
      go_wp2_with (go_at_call 30; refine (hib _).mono ?_; rintro e w2 ⟨rfl, hb2⟩; have HB2 := Aside0.mk hb2; clear hb2)
      refine bodyPost_ret (v := .tuple #[.bool false, .int .i64 0, .bool false]) (by simp [results, Try.results17, go_sem]) rfl ⟨rfl, below_then ((Below.refl _ _).alloc (Nat.le_refl _) _) (by simp) HB2.out⟩
end Go.Proofs.Ytkoplphcdkmilaa.All
end
