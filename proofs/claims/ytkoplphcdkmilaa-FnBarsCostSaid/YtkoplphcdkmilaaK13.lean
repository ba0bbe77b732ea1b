/- Texts of this claim joined, in the order in which they build: PEatEv, GEatOf, GEat. -/
import Derived.Test.YtkoplphcdkmilaaK12
section
namespace Go.Proofs.Ytkoplphcdkmilaa.PEatEv
open Go.RowKit Go.Proofs.Ytkoplphcdkmilaa.All Go.Proofs.YtkoplphcdkmilaaW.PrintWords Go.Proofs.YtkoplphcdkmilaaW.PrintLast Go.Proofs.YtkoplphcdkmilaaW.PrintMore Go.Proofs.Ytkoplphcdkmilaa.PEv Go.Proofs.Ytkoplphcdkmilaa.PCount Go.Proofs.Ytkoplphcdkmilaa.PEat Go.Proofs.Ytkoplphcdkmilaa.PImpl
set_option linter.unusedVariables false
set_option linter.unusedSimpArgs false

theorem less_eq (a b : Int) : spec_brLess.f a b = some (less a b) := by
  unfold spec_brLess.f less
  split
  · rfl
  · split <;> rfl
theorem price_eq {w h : Nat} (d : Bool) (hw : 1 ≤ w ∧ w ≤ 12) (hh : 1 ≤ h ∧ h ≤ 12) : spec_brPrice.f (w : Int) (h : Int) d = some (price w h d) := by
  have hp := price_in d hw hh
  unfold spec_brPrice.f spec_brLong.f
  unfold price at hp ⊢
  cases d with
  | true =>
    simp only [if_true, Option.bind_some] at hp ⊢
    rw [← Int.natCast_mul, wrap_in (by omega) (by omega)]
  | false =>
    simp only [Bool.false_eq_true, if_false, Option.bind_some] at hp ⊢
    rw [← Int.natCast_mul, wrap_in (by omega) (by omega)]
def tabl (f : Nat → Int) (n : Nat) : List Int := (List.range n).map f
theorem tabl_length (f : Nat → Int) (n : Nat) : (tabl f n).length = n := by unfold tabl; simp
theorem tabl_rd (f : Nat → Int) (n : Nat) {i : Int} (h0 : 0 ≤ i) (h1 : i < n) : rd (tabl f n) i = f i.toNat := by
  unfold rd tabl
  rw [List.getD_eq_getElem?_getD, List.getElem?_map, List.getElem?_range (by omega)]
  rfl
theorem brSum_l0 (E1 E2 : Nat → Int) (a1 a2 k : Nat) (ha1 : a1 ≤ 1000) (ha2 : a2 ≤ 1000) (hk : k ≤ a1 + a2) (h1 : ∀ i, 0 ≤ E1 i ∧ E1 i ≤ 1000000) (h2 : ∀ i, 0 ≤ E2 i ∧ E2 i ≤ 1000000) : ∀ (d i : Nat) (acc : Int), i + d = min (a1 + 1) (k + 1) → k - a2 ≤ i →
    LeastO (fun x => ∃ j, k - a2 ≤ j ∧ j < i ∧ x = E1 j + E2 (k - j)) acc → Ev (fun kk => spec_brSum.l0 kk (tabl E1 (a1 + 1)) (tabl E2 (a2 + 1)) (k : Int) acc (i : Int)) (lmin (sums E1 E2 a1 a2 k)) := by
  intro d
  induction d with
  | zero =>
    intro i acc hi hlo hacc
    have he : acc = lmin (sums E1 E2 a1 a2 k) := by
      refine hacc.full ?_
      have hl := Least.of_list (sums_some (E1 := E1) (E2 := E2) hk)
      constructor
      · obtain ⟨j, j1, j2, j3, j4⟩ := mem_sums.1 hl.1
        exact ⟨j, by omega, by omega, j4⟩
      · rintro x ⟨j, j1, j2, rfl⟩
        exact hl.2 _ (mem_sums.2 ⟨j, by omega, by omega, by omega, rfl⟩)
    refine Ev.step (f := fun _ => some acc) (fun kk => ?_) (by rw [he]; exact Ev.now _)
    simp only [spec_brSum.l0]
    rw [tabl_length]
    by_cases hc : (i : Int) < ((a1 + 1 : Nat) : Int)
    · rw [if_pos hc, if_neg (by omega)]
    · rw [if_neg hc]
  | succ d ih =>
    intro i acc hi hlo hacc
    have hs := hacc.step (T := fun x => ∃ j, k - a2 ≤ j ∧ j < i + 1 ∧ x = E1 j + E2 (k - j)) (b := E1 i + E2 (k - i)) (by have := h1 i; have := h2 (k - i); omega) (fun x => by
      constructor
      · rintro ⟨j, j1, j2, rfl⟩
        by_cases he : j = i
        · subst he; exact .inr rfl
        · exact .inl ⟨j, j1, by omega, rfl⟩
      · rintro (⟨j, j1, j2, rfl⟩ | rfl)
        · exact ⟨j, j1, by omega, rfl⟩
        · exact ⟨i, hlo, by omega, rfl⟩)
    have := ih (i + 1) _ (by omega) (by omega) hs
    refine Ev.step (f := fun kk => spec_brSum.l0 kk (tabl E1 (a1 + 1)) (tabl E2 (a2 + 1)) (k : Int) (less acc (E1 i + E2 (k - i))) ((i + 1 : Nat) : Int)) (fun kk => ?_) this
    have b1 := h1 i
    have b2 := h2 (k - i)
    simp only [spec_brSum.l0]
    rw [wrap_in (x := (k : Int) - (i : Int)) (by omega) (by omega), wrap_in (x := (i : Int) + 1) (by omega) (by omega)]
    rw [if_pos (by rw [tabl_length]; omega), if_pos (by omega), if_pos (by omega), if_pos (by omega), if_pos (by rw [tabl_length]; omega)]
    rw [tabl_rd E1 _ (by omega) (by omega), tabl_rd E2 _ (by omega) (by omega), Int.toNat_natCast, show ((k : Int) - (i : Int)).toNat = k - i by omega, wrap_in (by omega) (by omega), less_eq]
    rfl
theorem brSum_ev (E1 E2 : Nat → Int) (a1 a2 k : Nat) (ha1 : a1 ≤ 1000) (ha2 : a2 ≤ 1000) (hk : k ≤ a1 + a2) (h1 : ∀ i, 0 ≤ E1 i ∧ E1 i ≤ 1000000) (h2 : ∀ i, 0 ≤ E2 i ∧ E2 i ≤ 1000000) :
    ∃ kk, spec_brSum.f kk (tabl E1 (a1 + 1)) (tabl E2 (a2 + 1)) (k : Int) = some (lmin (sums E1 E2 a1 a2 k)) := by
  have h := brSum_l0 E1 E2 a1 a2 k ha1 ha2 hk h1 h2 (min (a1 + 1) (k + 1) - (k - a2)) (k - a2) (-1) (by omega) (Nat.le_refl _) (.inl ⟨rfl, fun x ⟨j, j1, j2, _⟩ => by omega⟩)
  obtain ⟨kk, hkk⟩ := h.rounds
  refine ⟨kk, ?_⟩
  unfold spec_brSum.f
  rw [most_eq, tabl_length, wrap_in (x := (k : Int) - ((a2 + 1 : Nat) : Int)) (by omega) (by omega), wrap_in (by omega) (by omega), Option.bind_some, show max (0 : Int) ((k : Int) - ((a2 + 1 : Nat) : Int) + 1) = ((k - a2 : Nat) : Int) by omega]
  exact hkk
end Go.Proofs.Ytkoplphcdkmilaa.PEatEv
end
section
namespace Go.Proofs.Ytkoplphcdkmilaa.All
open Go.RowKit Go.Proofs.YtkoplphcdkmilaaW.PrintWords Go.Proofs.YtkoplphcdkmilaaW.PrintLast Go.Proofs.YtkoplphcdkmilaaW.PrintMore Go.Shelf Go.Maps Go.Joins Go.Proofs.Ytkoplphcdkmilaa.PEv Go.Proofs.Ytkoplphcdkmilaa.PCount Go.Proofs.Ytkoplphcdkmilaa.GBar Go.Proofs.Ytkoplphcdkmilaa.PImpl Go.Proofs.Ytkoplphcdkmilaa.GTab Go.Proofs.Ytkoplphcdkmilaa.PEat Go.Proofs.Ytkoplphcdkmilaa.GEat
set_option linter.unusedVariables false
set_option linter.unusedSimpArgs false

theorem zero41 (w : World) : (zeroValue 41).run Try.prog w = .ok (.slice none 0 0) w := by kernel_rfl
theorem line_eq (a b : Int) (d : Bool) : impl_Bar_line.f a b d = some (if d = true then b else a) := by
  unfold impl_Bar_line.f
  split <;> rfl
theorem R_where0 {α : Type} {d : Kd α} {e base : Nat} {ok : Nat → Prop} {W : World} {v : Value} {xs : List α} (h : d.R e W base ok v xs) : ∃ A c, v = .slice A xs.length c ∧ d.C W A xs.length xs ∧ (0 < xs.length → ∃ g, A = some ⟨g, 0, none⟩ ∧ base ≤ g) := by
  obtain ⟨A, c, hv, hl, hC⟩ := Kd.R_reads h
  refine ⟨A, c, hv, hC, fun hn => ?_⟩
  obtain ⟨g, c', hv', hg, _, _⟩ := R_where h hn
  rw [hv] at hv'
  injection hv' with h1 h2 h3
  exact ⟨g, h1, hg⟩
variable (bm : Nat)

set_option maxHeartbeats 8000000 in
set_option maxRecDepth 100000 in
theorem of_any : ∀ (s : Nat) (a b : Int) (W : World), okB a b → (a + b).toNat ≤ s → MemoE W bm →
    Calls Try.prog 32 #[.map (some bm), .agg #[.int .i64 a, .int .i64 b]] W fun e w' => ∃ g, e = .returned (.slice (some ⟨g, 0, none⟩) (a.toNat * b.toNat + 1) (a.toNat * b.toNat + 1)) ∧ GotE bm a b W w' g := by
  intro s
  induction s with
  | zero =>
    intro a b W hok hs hm
    obtain ⟨h1, h2⟩ := hok
    omega
  | succ s ih =>
    intro a b W hok hs hm
    have hu25 := Try.underlying25
    have hsq := fun w => impl_Bar_squares.calls a b _ w (squares_eq hok)
    have hpb := prod_in hok
    have hmm := hm
    have HMM0 := Aside0.mk hmm
    clear hmm
    obtain ⟨n, D, hown, hroom, hmem⟩ := hm
    have HMEM := Aside0.mk hmem
    have HROOM := Aside0.mk hroom
    have HOWN := Aside0.mk hown
    have HOK := Aside0.mk hok
    have hkey := hok.key
    have hu54 := Try.underlying54
    have hqn : a * b = ((a.toNat * b.toNat : Nat) : Int) := by rw [Int.natCast_mul, Int.toNat_of_nonneg (by have := hok.1; omega), Int.toNat_of_nonneg (by have := hok.2; omega)]
    obtain ⟨q, hq⟩ : ∃ q, a.toNat * b.toNat = q := ⟨_, rfl⟩
    rw [hqn, hq] at hsq hpb
    rw [hq]
    have HQ := Aside0.mk hq
    clear hq hqn hown hmem hroom hok
    cases hh : Maps.has D (key a b) with
    | true =>
      have HH := Aside0.mk hh
      clear hh ih
      obtain ⟨g, hd, hr⟩ := HMEM.out a b HOK.out HH.out
      rw [HQ.out] at hd
      have HD := Aside0.mk hd
      have HR := Aside0.mk hr
      clear hd hr
      go_enter Try.func32, Try.ntmps32
      go_wp2_with (at_lookup; refine wpList_lookup_own_ok _ rfl _ _ 54 rfl 25 41 law25 Try.underlying54 RE (zero41 _) .nil [] RE_nil bm n D rfl (HOWN.out.alloc _) _ _ rfl hkey ?_; intro v ps hv; rw [HH.out]; rw [HD.out] at hv; have hv2 := RE_inv hv; subst hv2; clear hv)
      go_ret
      have hg : W.grownBy (W.alloc (.cells #[.int .i64 a, .int .i64 b] 25)) none := World.grownBy_alloc _ _ _
      refine ⟨g, rfl, HMM0.out.new hg, grown_none hg _, fun _ _ _ _ h => h.kept hg (by simp), fun N _ h => h.kept HMM0.out hg (by simp), HR.out.new hg, fun N hf he => ?_⟩
      subst he
      exact hf n D (HOWN.out.kept hg (by simp)) a b HOK.out HH.out _ HD.out
    | false =>
      have HH := Aside0.mk hh
      have IH := Aside0.mk ih
      clear hh ih
      have hbm : bm < W.heap.size := HOWN.out.lt
      obtain ⟨kc, hkc⟩ := cuts_ev HOK.out
      have hcu := fun w => impl_Bar_cuts.calls kc a b _ w hkc
      clear hkc
      have hlen := cutsZ_length a b
      obtain ⟨cl, hcl⟩ : ∃ cl, cutsZ a b = cl := ⟨_, rfl⟩
      obtain ⟨m, hm⟩ : ∃ m, (cutsN a.toNat b.toNat).length = m := ⟨_, rfl⟩
      have hm22 : m ≤ 22 := by
        have h1 := cutsN_length a.toNat b.toNat
        obtain ⟨⟨h2, h3⟩, h4, h5⟩ := HOK.out
        omega
      have hmk := fun W => make_run Try.underlying41 info3 rfl (q + 1) ((q : Int) + 1) (by omega) (by omega) (by omega) W
      rw [hcl, hm] at hlen
      rw [hcl] at hcu
      have HCL := Aside0.mk hcl
      have HLEN := Aside0.mk hlen
      have HMM := Aside0.mk hm
      clear hcl hlen hm
      go_enter Try.func32, Try.ntmps32
      go_wp2_with (first
        | (at_lookup; refine wpList_lookup_own_ok _ rfl _ _ 54 rfl 25 41 law25 Try.underlying54 RE (zero41 _) .nil [] RE_nil bm n D rfl (HOWN.out.alloc _) _ _ rfl hkey ?_; intro v ps hv; rw [HH.out]; clear hv)
        | (go_at_call 31; refine (hsq _).mono ?_; rintro e w2 ⟨rfl, hb2⟩; have HB2 := Aside0.mk hb2; clear hb2))
      have hgw : W.grownBy (w2.alloc (.cells (madeCells #[.int .i64 0] (q + 1)) 3)) none := World.grownBy.trans (World.grownBy_alloc _ _ _) (World.grownBy.trans (grown_of_below HB2.out none) (World.grownBy_alloc _ _ _))
      have HGW := Aside0.mk hgw
      have HBX3 : Aside0 ((w2.alloc (.cells (madeCells #[.int .i64 0] (q + 1)) 3)).heap[W.heap.size]? = some (.cells #[.int .i64 a, .int .i64 b] 25 (0, 0))) := ⟨blk_alloc (blk_grown' (blk_new W (.cells #[.int .i64 a, .int .i64 b] 25)) (grown_of_below HB2.out none) (by simp)) _⟩
      have HR3 : Aside0 (Row 3 (q + 1) (fun _ => True) (fun j => .int .i64 (if 1 ≤ j ∧ j < 1 then -1 else 0)) (w2.alloc (.cells (madeCells #[.int .i64 0] (q + 1)) 3)) w2.heap.size) := ⟨(Row.made w2 (.int .i64 0) (q + 1) 3).imp (fun _ _ _ => trivial) (fun j _ _ => by rw [if_neg (by omega)])⟩
      have HWN : Aside0 (W.heap.size < w2.heap.size) := ⟨by have := HB2.out.size; simp at this; omega⟩
      obtain ⟨N, hN⟩ : ∃ N, w2.heap.size = N := ⟨_, rfl⟩
      rw [hN] at HR3 HWN ⊢
      generalize w2.alloc (.cells (madeCells #[.int .i64 0] (q + 1)) 3) = w3 at HGW HBX3 HR3 ⊢
      clear hgw HB2 hN hmk
      have hfree : FreeN w3 bm N := FreeN.of (HOWN.out.kept HGW.out (by simp)) (fun a' b' h1 h2 m' h3 => by
        obtain ⟨g, h4, h5⟩ := HMEM.out a' b' h1 h2
        rw [h4] at h3
        have h6 := rowD_inj h3
        have h7 := h5.lt
        have h8 := HWN.out
        omega)
      have HST3 : Aside0 (StE bm N a b W w3) := ⟨⟨HMM0.out.new HGW.out, ⟨n, D, HOWN.out.kept HGW.out (by simp), HH.out⟩, fun _ _ _ _ h => h.kept HGW.out (by simp), grown_none HGW.out _, hfree, fun N' h1 h2 => h2.kept HMM0.out HGW.out (by simp), HR3.out.lt, Nat.le_of_lt HWN.out, hbm⟩⟩
      clear hfree
      obtain ⟨nb, hnb⟩ : ∃ nb, W.heap.size = nb := ⟨_, rfl⟩
      have HNB := Aside0.mk hnb
      rw [hnb] at HBX3 HWN ⊢
      have hbmn : bm < nb := by rw [← hnb]; exact hbm
      clear hnb
      go_loopg [9] q (fun gg s9 wr => ∃ k : Nat, 1 ≤ k ∧ k ≤ q ∧ q - k ≤ gg ∧ s9 = .int .i64 k ∧ Aside0 (w3.grownBy wr (some N)) ∧ Aside0 (Row 3 (q + 1) (fun _ => True) (fun j => .int .i64 (if 1 ≤ j ∧ j < k then -1 else 0)) wr N))
      case atStart => exact ⟨1, by omega, by omega, by omega, rfl, ⟨World.grownBy.refl _ _⟩, HR3⟩
      case round =>
        clear HR3
        obtain ⟨k, hk1, hk2, hgg, rfl, HG, HR⟩ := hrel
        by_cases hlt : k < q
        · have hltz : (k : Int) < (q : Int) := by omega
          obtain ⟨xo, hxo⟩ := HR.out.any k (by omega)
          have hfr := HR.out.frozen k
          have b1 : (k : Int) < (q : Int) + 1 := by omega
          have b2 : k < q + 1 := by omega
          go_wp2
          go_roundg (q - (k + 1))
          case measure => omega
          case rel => exact ⟨k + 1, by omega, by omega, by omega, by go_num, ⟨World.grownBy.trans HG.out (set1_grown _ _ _ _)⟩, ⟨HR.out.put k _ (fun j _ _ => by
            by_cases he : j = k
            · exact .inl ⟨he, by rw [he, if_pos (by omega)]⟩
            · refine .inr ⟨he, trivial, ?_⟩
              by_cases h3 : 1 ≤ j ∧ j < k
              · rw [if_pos h3, if_pos (by omega)]
              · rw [if_neg h3, if_neg (by omega)])⟩⟩
        · obtain rfl : k = q := by omega
          have hltz : ¬ (k : Int) < (k : Int) := by omega
          have HRa : Aside0 (Row 3 (k + 1) (fun _ => True) (fun j => .int .i64 ((fun t => if t = 0 ∨ a.toNat * b.toNat ≤ t then (0 : Int) else -1) j)) wr N) := ⟨HR.out.imp (fun _ _ _ => trivial) (fun j hj _ => by
            simp only [HQ.out]
            by_cases h3 : 1 ≤ j ∧ j < k
            · rw [if_pos h3, if_neg (by omega)]
            · rw [if_neg h3, if_pos (by omega)])⟩
          have HSTa := Aside0.mk (HST3.out.set HG.out)
          have HBXa := Aside0.mk (blk_grown' HBX3.out HG.out (by have := HWN.out; simp; omega))
          have c0 : wr.cell? ⟨nb, 0, none⟩ = some (.int .i64 a) := (blk_cell HBXa.out 0).trans rfl
          have c1 : wr.cell? ⟨nb, 1, none⟩ = some (.int .i64 b) := (blk_cell HBXa.out 1).trans rfl
          obtain ⟨q, rfl⟩ : ∃ q, q = k := ⟨_, rfl⟩
          clear HST3 HBX3 HG HR hk1 hk2 hgg
          go_wp2_with (go_at_call 39; refine (hcu _).mono ?_; rintro e w5 ⟨v5, rfl, hr5, hb5⟩; obtain ⟨A5, c5, rfl, hC5⟩ := R_where0 hr5; rw [HLEN.out] at hC5 ⊢; have HC5 := Aside0.mk hC5; have HB5 := Aside0.mk hb5; clear hr5 hb5 hC5)
          have HG5 := Aside0.mk (grown_of_below HB5.out none)
          have HST5 := Aside0.mk (HSTa.out.new HG5.out)
          have HR5 := Aside0.mk (HRa.out.new HG5.out)
          have HBX5 := Aside0.mk (blk_grown' HBXa.out HG5.out (by simp))
          have HNW := Aside0.mk HSTa.out.lt
          have HL5 : Aside0 (Low a.toNat b.toNat 0 0 0 (fun t => if t = 0 ∨ a.toNat * b.toNat ≤ t then (0 : Int) else -1)) := ⟨Low.start⟩
          have hab : (1 ≤ a.toNat ∧ a.toNat ≤ 12) ∧ 1 ≤ b.toNat ∧ b.toNat ≤ 12 := by have h1 := HOK.out.1; have h2 := HOK.out.2; omega
          have HAB := Aside0.mk hab
          clear hab HRa HSTa HBXa c0 c1 hcu
          go_loopg [47] m (fun gg s47 wx => ∃ (i : Nat) (f : Nat → Int), i ≤ m ∧ m - i ≤ gg ∧ s47 = .int .i64 i ∧ Aside0 (Low a.toNat b.toNat i 0 0 f) ∧ Aside0 (Row 3 (q + 1) (fun _ => True) (fun j => .int .i64 (f j)) wx N) ∧ Aside0 (StE bm N a b W wx) ∧ Aside0 (Kept2 bm N w5 wx))
          case atStart => exact ⟨0, _, by omega, by omega, rfl, HL5, HR5, HST5, ⟨Kept2.refl _ _ _⟩⟩
          case round =>
            clear HL5 HR5 HST5
            have HNW5 : Aside0 (N < w5.heap.size) := ⟨Nat.lt_of_lt_of_le HNW.out HB5.out.size⟩
            have hgb := HC5.out.2
            have HGB : Aside0 (0 < m → ∃ g, A5 = some ⟨g, 0, none⟩ ∧ N < g) := ⟨fun h0 => by
              obtain ⟨g, h1, h2⟩ := HC5.out.2 h0
              exact ⟨g, h1, Nat.lt_of_lt_of_le HNW.out h2⟩⟩
            clear hgb HNW HB5 HG5
            obtain ⟨i, f, hi, hgg, rfl, HLO, HR, HST, HK⟩ := hrel
            by_cases hlt : i < m
            · have hltz : (i : Int) < (m : Int) := by omega
              have hin : i < (cutsN a.toNat b.toNat).length := by rw [HMM.out]; exact hlt
              have hrd := cutsZ_at HOK.out i hin
              obtain ⟨g3, hA, hg3⟩ := HGB.out (by omega)
              subst hA
              obtain ⟨ad, e, hx0, hx1⟩ := at_T65 HC5.out.1 (i : Int) (by omega) hltz
              cases e
              rw [← HCL.out, hrd] at hx0 hx1
              have hget : (cutsN a.toNat b.toNat)[i]? = some (cutsN a.toNat b.toNat)[i] := List.getElem?_eq_getElem hin
              have hmem : (cutsN a.toNat b.toNat)[i] ∈ cutsN a.toNat b.toNat := List.getElem_mem hin
              have hbq := broken_eq HOK.out hmem
              obtain ⟨⟨p1, p2, p3, p4⟩, p5, p6, p7, p8, p9, p10, p11⟩ := parts hmem (by have := HOK.out.1; omega) (by have := HOK.out.2; omega)
              obtain ⟨c, hc⟩ : ∃ c, (cutsN a.toNat b.toNat)[i] = c := ⟨_, rfl⟩
              rw [hc] at hx0 hx1 hmem hbq p1 p2 p3 p4 p5 p6 p7 p8 p9 p10 p11 hget
              obtain ⟨⟨x1, y1⟩, he1⟩ : ∃ p, one a.toNat b.toNat c = p := ⟨_, rfl⟩
              obtain ⟨⟨x2, y2⟩, he2⟩ : ∃ p, two a.toNat b.toNat c = p := ⟨_, rfl⟩
              rw [he1] at hbq p1 p2 p5 p7 p8 p11
              rw [he2] at hbq p3 p4 p6 p9 p10 p11
              have hbn : g3 ≠ bm := by have := HWN.out; omega
              have hnn : g3 ≠ N := by omega
              simp only [Int.toNat_natCast, add_plain, Nat.zero_add] at hx0 hx1
              replace hx0 := HK.out.cell (by exact hbn) (by exact hnn) hx0
              replace hx1 := HK.out.cell (by exact hbn) (by exact hnn) hx1
              have hbx := HK.out.2 nb _ (by omega) (by have := HWN.out; omega) HBX5.out
              have cb0 : wr.cell? ⟨nb, 0, none⟩ = some (.int .i64 a) := (blk_cell hbx 0).trans rfl
              have cb1 : wr.cell? ⟨nb, 1, none⟩ = some (.int .i64 b) := (blk_cell hbx 1).trans rfl
              have hnbl := blk_lt hbx
              have HBX := Aside0.mk hbx
              have hok1 : okB (x1 : Int) (y1 : Int) := by have h1 := HOK.out.1; have h2 := HOK.out.2; simp only at p1 p2 p7 p8; exact ⟨by omega, by omega⟩
              have hok2 : okB (x2 : Int) (y2 : Int) := by have h1 := HOK.out.1; have h2 := HOK.out.2; simp only at p3 p4 p9 p10; exact ⟨by omega, by omega⟩
              have HOK1 := Aside0.mk hok1
              have HOK2 := Aside0.mk hok2
              have HLT : Aside0 ((x1 : Int) + y1 < a + b ∧ (x2 : Int) + y2 < a + b ∧ x1 * y1 + x2 * y2 = q) := ⟨by have h1 := HOK.out.1; have h2 := HOK.out.2; have h3 := HQ.out; simp only at p5 p6 p11; exact ⟨by omega, by omega, by omega⟩⟩
              obtain ⟨P1, hP1⟩ : ∃ P1, x1 * y1 = P1 := ⟨_, rfl⟩
              obtain ⟨P2, hP2⟩ : ∃ P2, x2 * y2 = P2 := ⟨_, rfl⟩
              have hpq : P1 + P2 = q := by rw [← hP1, ← hP2]; exact HLT.out.2.2
              have HGET := Aside0.mk hget
              have HE12 := Aside0.mk (And.intro he1 he2)
              obtain ⟨d, t⟩ := c
              have hbr := fun w => impl_Bar_broken.calls a b d (t : Int) _ _ _ _ _ w hbq
              have hln := fun w => impl_Bar_line.calls a b d _ w (line_eq a b d)
              clear hbq hmem hc he1 he2 p1 p2 p3 p4 p5 p6 p7 p8 p9 p10 p11 hok1 hok2 hbx hrd hin hget hbn hnn hg3
              go_upto_region 14 with (go_at_call 36; refine (hbr _).mono ?_; rintro e w6 ⟨rfl, hb6⟩; have HB6 := Aside0.mk hb6; clear hb6)
              have HG7 : Aside0 (wr.grownBy ((w6.alloc (.cells #[.int .i64 x1, .int .i64 y1] 25)).alloc (.cells #[.int .i64 x2, .int .i64 y2] 25)) none) := ⟨World.grownBy.trans (World.grownBy_alloc _ _ _) (World.grownBy.trans (grown_of_below HB6.out none) (World.grownBy.trans (World.grownBy_alloc _ _ _) (World.grownBy_alloc _ _ _)))⟩
              have HN11 : Aside0 (((w6.alloc (.cells #[.int .i64 x1, .int .i64 y1] 25)).alloc (.cells #[.int .i64 x2, .int .i64 y2] 25)).heap[wr.heap.size]? = some (.cells #[.bool d, .int .i64 (t : Int)] 65 (0, 0))) := ⟨blk_alloc (blk_alloc (blk_below (blk_new wr (.cells #[.bool d, .int .i64 (t : Int)] 65)) HB6.out) _) _⟩
              have HN12 : Aside0 (((w6.alloc (.cells #[.int .i64 x1, .int .i64 y1] 25)).alloc (.cells #[.int .i64 x2, .int .i64 y2] 25)).heap[w6.heap.size]? = some (.cells #[.int .i64 x1, .int .i64 y1] 25 (0, 0))) := ⟨blk_alloc (blk_new w6 _) _⟩
              have HN13 : Aside0 (((w6.alloc (.cells #[.int .i64 x1, .int .i64 y1] 25)).alloc (.cells #[.int .i64 x2, .int .i64 y2] 25)).heap[w6.heap.size + 1]? = some (.cells #[.int .i64 x2, .int .i64 y2] 25 (0, 0))) := ⟨by have := blk_new (w6.alloc (.cells #[.int .i64 x1, .int .i64 y1] 25)) (.cells #[.int .i64 x2, .int .i64 y2] 25); simpa using this⟩
              have HZ : Aside0 (nb < wr.heap.size ∧ wr.heap.size < w6.heap.size) := ⟨by have := HB6.out.size; simp at this; omega⟩
              obtain ⟨n11, hn11⟩ : ∃ n11, wr.heap.size = n11 := ⟨_, rfl⟩
              obtain ⟨n12, hn12⟩ : ∃ n12, w6.heap.size = n12 := ⟨_, rfl⟩
              rw [hn12] at HN12 HN13 HZ ⊢
              rw [hn11] at HN11 HZ ⊢
              generalize (w6.alloc (.cells #[.int .i64 x1, .int .i64 y1] 25)).alloc (.cells #[.int .i64 x2, .int .i64 y2] 25) = w7 at HG7 HN11 HN12 HN13 ⊢
              clear HB6 hn11 hn12 hx0 hx1 cb0 cb1 hnbl hbr
              have HBX7 := Aside0.mk (blk_grown' HBX.out HG7.out (by simp))
              have HST7 := Aside0.mk (HST.out.new HG7.out)
              have HR7 := Aside0.mk (HR.out.new HG7.out)
              have HK7 := Aside0.mk (HK.out.trans (Kept2.of HG7.out (by simp)))
              clear HBX HST HR HK
              have h0 : nb ≠ bm := by omega
              have h1 : n11 ≠ bm := by have := HZ.out; omega
              have h2 : n12 ≠ bm := by have := HZ.out; omega
              have h3 : n12 + 1 ≠ bm := by have := HZ.out; omega
              have hc1 : ∀ w', HdE bm N a b W w7 nb n11 n12 (n12 + 1) (.bool d) (.int .i64 x1) (.int .i64 y1) (.int .i64 x2) (.int .i64 y2) w' → Calls Try.prog 32 #[.map (some bm), .agg #[.int .i64 x1, .int .i64 y1]] w' fun e w'' => ∃ g, e = .returned (.slice (some ⟨g, 0, none⟩) (P1 + 1) (P1 + 1)) ∧ HdE bm N a b W w7 nb n11 n12 (n12 + 1) (.bool d) (.int .i64 x1) (.int .i64 y1) (.int .i64 x2) (.int .i64 y2) w'' ∧ Aside0 (Row 3 (P1 + 1) (fun _ => True) (fun k => .int .i64 (E x1 y1 k)) w'' g ∧ g ≠ N ∧ g ≠ bm) ∧ Aside0 (w'.grownBy w'' (some bm)) := fun w' h =>
                (IH.out x1 y1 w' HOK1.out (by have := HLT.out.1; omega) h.2.2.2.2.2.2.2.1.m).mono fun e w'' ⟨g, e1, e2⟩ => ⟨g, by rw [← hP1]; exact e1, h.call h0 h1 h2 h3 e2 HOK.out HLT.out.1, ⟨by rw [← hP1]; exact e2.row, e2.inn N (h.call h0 h1 h2 h3 e2 HOK.out HLT.out.1).2.2.2.2.2.2.2.1.fr, CostRow.ne e2.row e2.m⟩, ⟨e2.gr⟩⟩
              have hc2 : ∀ w', HdE bm N a b W w7 nb n11 n12 (n12 + 1) (.bool d) (.int .i64 x1) (.int .i64 y1) (.int .i64 x2) (.int .i64 y2) w' → Calls Try.prog 32 #[.map (some bm), .agg #[.int .i64 x2, .int .i64 y2]] w' fun e w'' => ∃ g, e = .returned (.slice (some ⟨g, 0, none⟩) (P2 + 1) (P2 + 1)) ∧ HdE bm N a b W w7 nb n11 n12 (n12 + 1) (.bool d) (.int .i64 x1) (.int .i64 y1) (.int .i64 x2) (.int .i64 y2) w'' ∧ Aside0 (Row 3 (P2 + 1) (fun _ => True) (fun k => .int .i64 (E x2 y2 k)) w'' g ∧ g ≠ N ∧ g ≠ bm) ∧ Aside0 (w'.grownBy w'' (some bm)) := fun w' h =>
                (IH.out x2 y2 w' HOK2.out (by have := HLT.out.2.1; omega) h.2.2.2.2.2.2.2.1.m).mono fun e w'' ⟨g, e1, e2⟩ => ⟨g, by rw [← hP2]; exact e1, h.call h0 h1 h2 h3 e2 HOK.out HLT.out.2.1, ⟨by rw [← hP2]; exact e2.row, e2.inn N (h.call h0 h1 h2 h3 e2 HOK.out HLT.out.2.1).2.2.2.2.2.2.2.1.fr, CostRow.ne e2.row e2.m⟩, ⟨e2.gr⟩⟩
              obtain ⟨ln, hln2⟩ : ∃ ln, (if d = true then b else a) = ln := ⟨_, rfl⟩
              rw [hln2] at hln
              have HLN := Aside0.mk hln2
              have s0 : HdE bm N a b W w7 nb n11 n12 (n12 + 1) (.bool d) (.int .i64 x1) (.int .i64 y1) (.int .i64 x2) (.int .i64 y2) w7.drew :=
                HdE.new ⟨(blk_cell HBX7.out 0).trans rfl, (blk_cell HBX7.out 1).trans rfl, (blk_cell HN11.out 0).trans rfl, (blk_cell HN12.out 0).trans rfl, (blk_cell HN12.out 1).trans rfl, (blk_cell HN13.out 0).trans rfl, (blk_cell HN13.out 1).trans rfl, HST7.out, World.grownBy.refl _ _⟩ (grown_drew w7)
              clear hln2 h0 h1 h2 h3 HST7
              go_region_held3 (fun w' => w'.cell? ⟨nb, 0, none⟩ = some (.int .i64 a) ∧ w'.cell? ⟨nb, 1, none⟩ = some (.int .i64 b) ∧ w'.cell? ⟨n11, 0, none⟩ = some (.bool d) ∧ w'.cell? ⟨n12, 0, none⟩ = some (.int .i64 x1) ∧ w'.cell? ⟨n12, 1, none⟩ = some (.int .i64 y1) ∧ w'.cell? ⟨n12 + 1, 0, none⟩ = some (.int .i64 x2) ∧ w'.cell? ⟨n12 + 1, 1, none⟩ = some (.int .i64 y2) ∧ StE bm N a b W w' ∧ w7.grownBy w' (some bm)) (first | assumption)
                (first
                  | (go_at_call 32; (with_reducible refine (hc1 _ (by assumption)).mono ?_); rintro e w8 ⟨g1, rfl, s8, HR1, HK1⟩)
                  | (go_at_call 32; (with_reducible refine (hc2 _ (by assumption)).mono ?_); rintro e w9 ⟨g2, rfl, s9, HR2, HK2⟩)
                  | (go_at_call 40; (with_reducible refine (hln _).mono ?_); rintro e w10 ⟨rfl, hb10⟩; have s10 := HdE.new (by assumption) (grown_of_below hb10 none); have HB10 := Aside0.mk hb10; clear hb10))
              have HS10 := Aside0.mk s10.2.2.2.2.2.2.2.1
              have HK10 := Aside0.mk (HK7.out.trans (Kept2.of s10.2.2.2.2.2.2.2.2 (fun r hr => by injection hr with hr; exact .inl hr.symm)))
              have hg10 := grown_of_below HB10.out none
              have HR1x := Aside0.mk ((HR1.out.1.kept HK2.out (by simp; exact HR1.out.2.2)).new hg10)
              have HR2x := Aside0.mk (HR2.out.1.new hg10)
              have HN12x := Aside0.mk (And.intro HR1.out.2.1 HR2.out.2.1)
              have HRN : Aside0 (Row 3 (q + 1) (fun _ => True) (fun j => .int .i64 (f j)) w10 N) := ⟨(HR7.out.kept s10.2.2.2.2.2.2.2.2 (by have := HWN.out; simp; omega))⟩
              have hsq1 : sq (one a.toNat b.toNat (d, t)) = P1 := by unfold sq; rw [HE12.out.1]; exact hP1
              have hsq2 : sq (two a.toNat b.toNat (d, t)) = P2 := by unfold sq; rw [HE12.out.2]; exact hP2
              have HSQ := Aside0.mk (And.intro hsq1 hsq2)
              have hll : ln * ln = price a.toNat b.toNat d := by
                rw [← HLN.out]
                unfold price
                have h1 := HOK.out.1
                have h2 := HOK.out.2
                cases d with
                | true => simp only [if_true]; rw [Int.natCast_mul, Int.toNat_of_nonneg (by omega)]
                | false => simp only [Bool.false_eq_true, if_false]; rw [Int.natCast_mul, Int.toNat_of_nonneg (by omega)]
              have hpc := price_in (w := a.toNat) (h := b.toNat) d HAB.out.1 HAB.out.2
              obtain ⟨pc, hpce⟩ : ∃ pc, price a.toNat b.toNat d = pc := ⟨_, rfl⟩
              rw [hpce] at hll hpc
              have HPC := Aside0.mk hpce
              have HP12 := Aside0.mk (And.intro hP1 hP2)
              have hp1l : P1 ≤ 144 ∧ P2 ≤ 144 := by omega
              clear s0 s8 s9 s10 hg10 hc1 hc2 hln hpce hP1 hP2 hsq1 hsq2 HR1 HR2 HB10 HK1 HK2 HK7 HR7 HN11 HN12 HN13 HBX7
              go_wp2
              go_loopg [73] (P1 + 1) (fun gg s73 wy => ∃ (i0 : Nat) (f : Nat → Int), i0 ≤ P1 + 1 ∧ P1 + 1 - i0 ≤ gg ∧ s73 = .int .i64 i0 ∧ Aside0 (Low a.toNat b.toNat i i0 0 f) ∧ Aside0 (Row 3 (q + 1) (fun _ => True) (fun j => .int .i64 (f j)) wy N) ∧ Aside0 (w10.grownBy wy (some N)))
              case atStart => exact ⟨0, f, by omega, by omega, rfl, HLO, HRN, ⟨World.grownBy.refl _ _⟩⟩
              case round =>
                clear HLO HRN
                obtain ⟨i0, f, hi0, hgg2, rfl, HLO, HR, HG⟩ := hrel
                by_cases hlti : i0 < P1 + 1
                · have hltiz : (i0 : Int) < (P1 : Int) + 1 := by omega
                  have d1 := (HR1x.out.kept HG.out (by simp; exact HN12x.out.1)).cell i0 hlti trivial
                  have hm1 := E_bound (w := x1) (h := y1) i0 (by have h1 := HOK1.out.1; omega) (by have h1 := HOK1.out.2; omega)
                  obtain ⟨m1, hm1e⟩ : ∃ m1, E x1 y1 i0 = m1 := ⟨_, rfl⟩
                  rw [hm1e] at d1 hm1
                  have HM1 := Aside0.mk hm1e
                  clear hm1e
                  go_wp2
                  have HL0 := HLO
                  have HR0 := HR
                  have HG0 := HG
                  clear HLO HR HG d1
                  go_loopg [80] (P2 + 1) (fun gg s80 wz => ∃ (k0 : Nat) (f : Nat → Int), k0 ≤ P2 + 1 ∧ P2 + 1 - k0 ≤ gg ∧ s80 = .int .i64 k0 ∧ Aside0 (Low a.toNat b.toNat i i0 k0 f) ∧ Aside0 (Row 3 (q + 1) (fun _ => True) (fun j => .int .i64 (f j)) wz N) ∧ Aside0 (w10.grownBy wz (some N)))
                  case atStart => exact ⟨0, f, by omega, by omega, rfl, HL0, HR0, HG0⟩
                  case round =>
                    clear HL0 HR0 HG0
                    obtain ⟨k0, f, hk0, hgg3, rfl, HLO, HR, HG⟩ := hrel
                    by_cases hltk : k0 < P2 + 1
                    · have hltkz : (k0 : Int) < (P2 : Int) + 1 := by omega
                      have d2 := (HR2x.out.kept HG.out (by simp; exact HN12x.out.2)).cell k0 hltk trivial
                      have hm2 := E_bound (w := x2) (h := y2) k0 (by have h1 := HOK2.out.1; omega) (by have h1 := HOK2.out.2; omega)
                      obtain ⟨m2, hm2e⟩ : ∃ m2, E x2 y2 k0 = m2 := ⟨_, rfl⟩
                      rw [hm2e] at d2 hm2
                      obtain ⟨tt, htt⟩ : ∃ tt, i0 + k0 = tt := ⟨_, rfl⟩
                      have hit : (i0 : Int) + (k0 : Int) = (tt : Int) := by omega
                      have httl : tt < q + 1 := by omega
                      have httz : (tt : Int) < (q : Int) + 1 := by omega
                      have d3 := HR.out.cell tt httl trivial
                      have hfb := HLO.out.bound HAB.out.1 HAB.out.2 tt (by rw [HQ.out]; omega)
                      obtain ⟨ft, hft⟩ : ∃ ft, f tt = ft := ⟨_, rfl⟩
                      rw [hft] at d3 hfb
                      obtain ⟨own, hown⟩ : ∃ own, pc + m1 + m2 = own := ⟨_, rfl⟩
                      have hfz := HR.out.frozen tt
                      have HLN2 : Aside0 (Low a.toNat b.toNat i i0 (k0 + 1) (fun t' => if t' = i0 + k0 ∧ (f t' < 0 ∨ own < f t') then own else f t')) := ⟨Low.step HAB.out.1 HAB.out.2 HGET.out (by rw [HSQ.out.1]; omega) (by rw [HSQ.out.2]; omega) HLO.out own (by rw [HE12.out.1, HE12.out.2]; simp only; rw [HM1.out, hm2e, HPC.out]; exact hown.symm) _ (fun _ => rfl)⟩
                      have HFT := Aside0.mk (And.intro hft htt)
                      clear hft htt hm2e HLO
                      by_cases hcnd : ft < 0 ∨ own < ft
                      · have HRput : Aside0 (Row 3 (q + 1) (fun _ => True) (fun j => .int .i64 ((fun t' => if t' = i0 + k0 ∧ (f t' < 0 ∨ own < f t') then own else f t') j)) (wr.setCell ⟨N, tt, none⟩ (.int .i64 own)) N) := ⟨HR.out.put tt _ (fun j _ _ => by
                          simp only [HFT.out.2]
                          by_cases he : j = tt
                          · refine .inl ⟨he, ?_⟩
                            rw [he, HFT.out.1, if_pos ⟨rfl, hcnd⟩]
                          · exact .inr ⟨he, trivial, by rw [if_neg (fun h => he h.1)]⟩)⟩
                        have HGput := Aside0.mk (World.grownBy.trans HG.out (set1_grown wr N tt (.int .i64 own)))
                        rcases hcnd with hcnd | hcnd
                        · go_wp2
                          go_roundg (P2 + 1 - (k0 + 1))
                          case measure => omega
                          case rel => exact ⟨k0 + 1, _, by omega, by omega, by go_num, HLN2, HRput, HGput⟩
                        · by_cases hneg : ft < 0
                          · exfalso; omega
                          · go_wp2
                            go_roundg (P2 + 1 - (k0 + 1))
                            case measure => omega
                            case rel => exact ⟨k0 + 1, _, by omega, by omega, by go_num, HLN2, HRput, HGput⟩
                      · have HRkeep : Aside0 (Row 3 (q + 1) (fun _ => True) (fun j => .int .i64 ((fun t' => if t' = i0 + k0 ∧ (f t' < 0 ∨ own < f t') then own else f t') j)) wr N) := ⟨HR.out.imp (fun _ _ _ => trivial) (fun j _ _ => by
                          simp only [HFT.out.2]
                          rw [if_neg]
                          rintro ⟨he, h⟩
                          rw [he, HFT.out.1] at h
                          exact hcnd h)⟩
                        have hc1 : ¬ ft < 0 := fun h => hcnd (.inl h)
                        have hc2 : ¬ own < ft := fun h => hcnd (.inr h)
                        clear hcnd
                        go_wp2
                        go_roundg (P2 + 1 - (k0 + 1))
                        case measure => omega
                        case rel => exact ⟨k0 + 1, _, by omega, by omega, by go_num, HLN2, HRkeep, HG⟩
                    · obtain rfl : k0 = P2 + 1 := by omega
                      have hltkz : ¬ ((P2 + 1 : Nat) : Int) < (P2 : Int) + 1 := by omega
                      have HLr : Aside0 (Low a.toNat b.toNat i (i0 + 1) 0 f) := ⟨Low.row HGET.out (by rw [HSQ.out.2]; exact HLO.out)⟩
                      clear HLO
                      go_wp2
                      go_roundg (P1 + 1 - (i0 + 1))
                      case measure => omega
                      case rel => exact ⟨i0 + 1, f, by omega, by omega, by go_num, HLr, HR, HG⟩
                · obtain rfl : i0 = P1 + 1 := by omega
                  have hltiz : ¬ ((P1 + 1 : Nat) : Int) < (P1 : Int) + 1 := by omega
                  have HLb : Aside0 (Low a.toNat b.toNat (i + 1) 0 0 f) := ⟨Low.break_ HGET.out (by rw [HSQ.out.1]; exact HLO.out)⟩
                  have HSTb := Aside0.mk (HS10.out.set HG.out)
                  have HKb := Aside0.mk (HK10.out.trans (Kept2.of HG.out (fun r hr => by injection hr with hr; exact .inr hr.symm)))
                  clear HLO
                  go_wp2
                  go_roundg (m - (i + 1))
                  case measure => omega
                  case rel => exact ⟨i + 1, f, by omega, by omega, by go_num, HLb, HR, HSTb, HKb⟩
            · obtain rfl : i = m := by omega
              have hltz : ¬ (i : Int) < (i : Int) := by omega
              obtain ⟨n2, D2, hown2, hroom2, hmem2⟩ := HST.out.m
              have HOW2 := Aside0.mk hown2
              have HR2 := Aside0.mk hroom2
              have HM2 := Aside0.mk hmem2
              have hbx := HK.out.2 nb _ (by omega) (by have := HWN.out; omega) HBX5.out
              have cb0 : wr.cell? ⟨nb, 0, none⟩ = some (.int .i64 a) := (blk_cell hbx 0).trans rfl
              have cb1 : wr.cell? ⟨nb, 1, none⟩ = some (.int .i64 b) := (blk_cell hbx 1).trans rfl
              have hn2 : n2 < maxLen := by unfold maxLen; omega
              have HRE : Aside0 (Row 3 (q + 1) (fun _ => True) (fun j => .int .i64 (E a.toNat b.toNat j)) wr N) := ⟨HR.out.imp (fun _ _ _ => trivial) (fun j hj _ => by rw [HLO.out.full HAB.out.1 HAB.out.2 HMM.out.symm j (by rw [HQ.out]; omega)])⟩
              clear hown2 hroom2 hmem2 hbx HLO HR
              go_wp2_with (at_mapUpdate; refine wpList_mapUpdate_own _ rfl _ _ _ 54 rfl 25 41 law25 Try.underlying54 RE bm n2 D2 rfl HOW2.out hn2 _ _ _ rfl rfl hkey (rowD N (q + 1)) [] (RE_row N (q + 1)) ?_; intro w4 hown4 hgrow4; have HO4 := Aside0.mk hown4; have HG4 := Aside0.mk hgrow4; clear hown4 hgrow4)
              go_ret
              have hkl : WideAt.IsKeyLit (key a b) := law25.key hkey
              have habs : Maps.has D2 (key a b) = false := by
                obtain ⟨n3, D3, h3, h4⟩ := HST.out.ab
                rw [owns_one HOW2.out h3]
                exact h4
              have hNbm : N ≠ bm := by have := HWN.out; omega
              have hrow : CostRow w4 a b N := by
                unfold CostRow
                rw [HQ.out]
                exact HRE.out.kept HG4.out (by simp; exact hNbm)
              refine ⟨N, rfl, ⟨n2 + 1, _, HO4.out, ?_, fun a' b' hok' hhas => ?_⟩, World.grownBy.trans HST.out.g HG4.out, fun a' b' hok' hb ha => ?_, fun N' h1 h2 => ?_, hrow, fun N' hf he => ?_⟩
              · have := room_put (d := rowD N (q + 1)) HOK.out HOW2.out.isMap habs hkl
                have := HR2.out
                omega
              · by_cases he : key a' b' = key a b
                · obtain ⟨e1, e2⟩ := hok'.inj HOK.out he
                  rw [he, atKey_put_same HOW2.out.isMap hkl, e1, e2]
                  exact ⟨N, by rw [HQ.out], hrow⟩
                · rw [has_put_other he] at hhas
                  rw [atKey_put_other he]
                  obtain ⟨g, h4, h5⟩ := HM2.out a' b' hok' hhas
                  exact ⟨g, h4, h5.kept HG4.out (by simp; exact row_ne_map h5 HOW2.out)⟩
              · obtain ⟨n3, D3, h3, h4⟩ := HST.out.far a' b' hok' hb ha
                refine ⟨n2 + 1, _, HO4.out, ?_⟩
                rw [has_put_other (fun he => by obtain ⟨e1, e2⟩ := hok'.inj HOK.out he; omega), owns_one HOW2.out h3]
                exact h4
              · refine FreeN.of HO4.out (fun a' b' hok' hhas m' h3 => ?_)
                by_cases he : key a' b' = key a b
                · rw [he, atKey_put_same HOW2.out.isMap hkl] at h3
                  have h4 := rowD_inj h3
                  have h5 := HST.out.ge
                  omega
                · rw [has_put_other he] at hhas
                  rw [atKey_put_other he] at h3
                  exact HST.out.fo N' h1 h2 n2 D2 HOW2.out a' b' hok' hhas m' h3
              · subst he
                refine hf _ _ HO4.out a b HOK.out (has_put_same HOW2.out.isMap hkl _) (q + 1) ?_
                rw [atKey_put_same HOW2.out.isMap hkl]
end Go.Proofs.Ytkoplphcdkmilaa.All
end
section
namespace Go.Proofs.Ytkoplphcdkmilaa.All
open Go.RowKit Go.Proofs.YtkoplphcdkmilaaW.PrintWords Go.Proofs.YtkoplphcdkmilaaW.PrintLast Go.Proofs.YtkoplphcdkmilaaW.PrintMore Go.Shelf Go.Maps Go.Joins Go.Proofs.Ytkoplphcdkmilaa.PEv Go.Proofs.Ytkoplphcdkmilaa.PCount Go.Proofs.Ytkoplphcdkmilaa.GBar Go.Proofs.Ytkoplphcdkmilaa.PImpl Go.Proofs.Ytkoplphcdkmilaa.GTab Go.Proofs.Ytkoplphcdkmilaa.PEat Go.Proofs.Ytkoplphcdkmilaa.GEat
set_option linter.unusedVariables false
set_option linter.unusedSimpArgs false

theorem new_memo (W : World) : MemoE (W.alloc (.map #[] 0)) W.heap.size := ⟨0, .map [], World.ownsMap_made W Try.prog 25 RE, by have := room_le (.map []); omega, fun a b _ h => by simp [Maps.has] at h⟩
theorem eat_below {B bm : Nat} {a b : Int} {V W w : World} {g : Nat} (h : Below B V W) (hc : GotE bm a b W w g) (hB : B ≤ bm) (hs : B ≤ V.heap.size) : Below B V w := below_new h hc.gr (fun r hr => by injection hr with hr; omega) hs
theorem boxed (w : World) (x y : Value) : (w.alloc (.cells #[x, y] 25)).cell? ⟨w.heap.size, 0, none⟩ = some x ∧ (w.alloc (.cells #[x, y] 25)).cell? ⟨w.heap.size, 1, none⟩ = some y ∧ Below w.heap.size w (w.alloc (.cells #[x, y] 25)) :=
  ⟨(blk_cell (blk_new w (.cells #[x, y] 25)) 0).trans rfl, (blk_cell (blk_new w (.cells #[x, y] 25)) 1).trans rfl, (Below.refl _ _).alloc (Nat.le_refl _) _⟩
theorem boxed_below {w w' w'' : World} {n : Nat} {u v : Value} (h : w'.cell? ⟨n, 0, none⟩ = some u ∧ w'.cell? ⟨n, 1, none⟩ = some v ∧ Below w.heap.size w w') (hb : Below w'.heap.size w' w'') :
    w''.cell? ⟨n, 0, none⟩ = some u ∧ w''.cell? ⟨n, 1, none⟩ = some v ∧ Below w.heap.size w w'' :=
  ⟨cell_grown h.1 (grown_of_below hb none) (by simp), cell_grown h.2.1 (grown_of_below hb none) (by simp), below_then h.2.2 h.2.2.size hb⟩
theorem below_alloc' {B : Nat} {V W : World} {o : Obj} (h : Below B V W) (hB : B ≤ V.heap.size := by exact Nat.le_refl _) : Below B V (W.alloc o) := h.alloc (Nat.le_trans hB h.size) o
def impl_LeastToEat.f (a0_0 : Int) (a0_1 : Int) (a1 : Int) : Option (Int × Bool) := some (if okB a0_0 a0_1 ∧ 0 ≤ a1 ∧ a1 ≤ a0_0 * a0_1 then (E a0_0.toNat a0_1.toNat a1.toNat, true) else (0, false))
set_option maxHeartbeats 4000000 in
set_option maxRecDepth 100000 in
theorem impl_LeastToEat.calls (a0_0 : Int) (a0_1 : Int) (a1 : Int) (r1 : Int) (r2 : Bool) (w : World) (h : impl_LeastToEat.f a0_0 a0_1 a1 = some (r1, r2)) :
    Calls Try.prog 15 #[.agg #[.int .i64 a0_0, .int .i64 a0_1], .int .i64 a1] w fun e w' => e = .returned (.tuple #[.int .i64 r1, .bool r2]) ∧ Below w.heap.size w w' := by
  have hu25 := Try.underlying25
  have hib := fun w => impl_isBar.calls a0_0 a0_1 _ w (isBar_eq a0_0 a0_1)
  unfold impl_LeastToEat.f at h
  replace h := Option.some.inj h
  by_cases hok : okB a0_0 a0_1
  · rw [decide_eq_true hok] at hib
    have hsq := fun w => impl_Bar_squares.calls a0_0 a0_1 _ w (squares_eq hok)
    have hpb := prod_in hok
    obtain ⟨q, hq⟩ : ∃ q, a0_0 * a0_1 = q := ⟨_, rfl⟩
    rw [hq] at hsq hpb h
    have hwi := fun w => impl_within.calls a1 0 q _ w (within_eq a1 0 q)
    by_cases hs : 0 ≤ a1 ∧ a1 ≤ q
    · rw [decide_eq_true hs] at hwi
      rw [if_pos ⟨hok, hs⟩] at h
      obtain ⟨rfl, rfl⟩ := Prod.mk.inj h
      obtain ⟨a, rfl⟩ := Int.eq_ofNat_of_zero_le (a := a0_0) (by have := hok.1; omega)
      obtain ⟨b, rfl⟩ := Int.eq_ofNat_of_zero_le (a := a0_1) (by have := hok.2; omega)
      obtain ⟨s, rfl⟩ := Int.eq_ofNat_of_zero_le hs.1
      simp only [Int.toNat_natCast] at hib hsq hwi ⊢
      obtain ⟨p, hp⟩ : ∃ p, a * b = p := ⟨_, rfl⟩
      have hqp : q = (p : Int) := by rw [← hq, ← Int.natCast_mul, hp]
      subst hqp
      have hof := fun bm W => of_any bm _ (a : Int) (b : Int) W hok (Nat.le_refl _)
      have HOF := Aside0.mk hof
      have hmm := @run_makeMap Try.prog
      have b1 : (s : Int) < (p : Int) + 1 := by omega
      have b2 : s < p + 1 := by omega
      obtain ⟨z, hz⟩ : ∃ z, E a b s = z := ⟨_, rfl⟩
      rw [hz]
      have HZ := Aside0.mk hz
      have HP := Aside0.mk hp
      clear hof hz hp hq h hs hok
      go_enter Try.func15, Try.ntmps15
      go_wp2_with (first
        | (go_at_call 30; refine (hib _).mono ?_; rintro e w2 ⟨rfl, hb2⟩; have s2 := boxed_below (boxed w (.int .i64 (a : Int)) (.int .i64 (b : Int))) hb2; have c0 := s2.1; have c1 := s2.2.1; have HS2 := Aside0.mk s2; clear s2 hb2)
        | (go_at_call 31; refine (hsq _).mono ?_; rintro e w3 ⟨rfl, hb3⟩; have s3 := boxed_below HS2.out hb3; have c0 := s3.1; have c1 := s3.2.1; have l3 : w.heap.size < w3.heap.size := World.block_lt_of_cell? _ _ c0; have HS3 := Aside0.mk s3; clear s3 hb3)
        | (go_at_call 37; refine (hwi _).mono ?_; rintro e w4 ⟨rfl, ⟨nd, rfl⟩⟩; have HS4 : Aside0 ((w3.drewN nd).cell? ⟨w.heap.size, 0, none⟩ = some (.int .i64 (a : Int)) ∧ (w3.drewN nd).cell? ⟨w.heap.size, 1, none⟩ = some (.int .i64 (b : Int)) ∧ Below w.heap.size w (w3.drewN nd)) := ⟨HS3.out.1, HS3.out.2.1, pw_below_drewN HS3.out.2.2 _⟩; have k0 := cell_grown HS4.out.1 (World.grownBy_alloc (w3.drewN nd) (.map #[] 0) none) (by simp); have k1 := cell_grown HS4.out.2.1 (World.grownBy_alloc (w3.drewN nd) (.map #[] 0) none) (by simp))
        | (go_at_call 32; refine (HOF.out _ _ (new_memo _)).mono ?_; rintro e w5 ⟨g, rfl, hgot⟩; have hrow := hgot.row; unfold CostRow at hrow; simp only [Int.toNat_natCast] at hrow; rw [HP.out] at hrow; have c2 := hrow.cell s (by omega) trivial; rw [HZ.out] at c2; rw [show (a : Int).toNat * (b : Int).toNat = p from HP.out]; have HGOT := Aside0.mk hgot; clear hrow hgot))
      go_ret2
      refine ⟨rfl, eat_below (below_alloc' HS4.out.2.2) HGOT.out (Nat.le_of_lt l3) (Nat.le_refl _)⟩
    · rw [decide_eq_false hs] at hwi
      rw [if_neg (fun h => hs h.2)] at h
      obtain ⟨rfl, rfl⟩ := Prod.mk.inj h
      clear hq h hs hok
      go_enter Try.func15, Try.ntmps15
      go_wp2_with (first
        | (go_at_call 30; refine (hib _).mono ?_; rintro e w2 ⟨rfl, hb2⟩; have s2 := boxed_below (boxed w (.int .i64 a0_0) (.int .i64 a0_1)) hb2; have c0 := s2.1; have c1 := s2.2.1; have HS2 := Aside0.mk s2; clear s2 hb2)
        | (go_at_call 31; refine (hsq _).mono ?_; rintro e w3 ⟨rfl, hb3⟩; have s3 := boxed_below HS2.out hb3; have HS3 := Aside0.mk s3; clear s3 hb3)
        | (go_at_call 37; refine (hwi _).mono ?_; rintro e w4 ⟨rfl, ⟨nd, rfl⟩⟩))
      go_ret2
      exact ⟨rfl, pw_below_drewN HS3.out.2.2 _⟩
  · rw [decide_eq_false hok] at hib
    rw [if_neg (fun h => hok h.1)] at h
    obtain ⟨rfl, rfl⟩ := Prod.mk.inj h
    clear hok h
    go_enter Try.func15, Try.ntmps15
    go_wp2_with (go_at_call 30; refine (hib _).mono ?_; rintro e w2 ⟨rfl, hb2⟩; have HB2 := Aside0.mk hb2; clear hb2)
    go_ret2
    exact ⟨rfl, below_then ((Below.refl _ _).alloc (Nat.le_refl _) _) (by simp) HB2.out⟩
end Go.Proofs.Ytkoplphcdkmilaa.All
end
