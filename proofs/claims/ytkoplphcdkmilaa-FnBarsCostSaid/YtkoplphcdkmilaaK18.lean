/- Texts of this claim joined, in the order in which they build: GSFirst, Ax9, Ax10. -/
import Derived.Test.YtkoplphcdkmilaaK17
section
namespace Go.Proofs.Ytkoplphcdkmilaa.All
open Go.Proofs.Ytkoplphcdkmilaa.GSteps Go.RowKit Go.Proofs.YtkoplphcdkmilaaW.PrintWords Go.Proofs.YtkoplphcdkmilaaW.PrintLast Go.Proofs.YtkoplphcdkmilaaW.PrintMore Go.Shelf Go.Maps Go.Joins Go.Proofs.Ytkoplphcdkmilaa.PEv Go.Proofs.Ytkoplphcdkmilaa.PCount Go.Proofs.Ytkoplphcdkmilaa.GBar Go.Proofs.Ytkoplphcdkmilaa.PImpl Go.Proofs.Ytkoplphcdkmilaa.GTab Go.Proofs.Ytkoplphcdkmilaa.PEat Go.Proofs.Ytkoplphcdkmilaa.PEatEv
set_option linter.unusedVariables false
set_option linter.unusedSimpArgs false

theorem six_below {w3 w' w'' : World} {p1 p2 p3 p4 p5 p6 : Addr} {v1 v2 v3 v4 v5 v6 : Value} (h : w'.cell? p1 = some v1 ∧ w'.cell? p2 = some v2 ∧ w'.cell? p3 = some v3 ∧ w'.cell? p4 = some v4 ∧ w'.cell? p5 = some v5 ∧ w'.cell? p6 = some v6 ∧ w3.grownBy w' none) (hb : w'.grownBy w'' none) :
    w''.cell? p1 = some v1 ∧ w''.cell? p2 = some v2 ∧ w''.cell? p3 = some v3 ∧ w''.cell? p4 = some v4 ∧ w''.cell? p5 = some v5 ∧ w''.cell? p6 = some v6 ∧ w3.grownBy w'' none :=
  ⟨cell_grown h.1 hb (by simp), cell_grown h.2.1 hb (by simp), cell_grown h.2.2.1 hb (by simp), cell_grown h.2.2.2.1 hb (by simp), cell_grown h.2.2.2.2.1 hb (by simp), cell_grown h.2.2.2.2.2.1 hb (by simp), World.grownBy.trans h.2.2.2.2.2.2 hb⟩
theorem six_last {w3 w' : World} {p1 p2 p3 p4 p5 p6 : Addr} {v1 v2 v3 v4 v5 v6 : Value} (h : w'.cell? p1 = some v1 ∧ w'.cell? p2 = some v2 ∧ w'.cell? p3 = some v3 ∧ w'.cell? p4 = some v4 ∧ w'.cell? p5 = some v5 ∧ w'.cell? p6 = some v6 ∧ w3.grownBy w' none) : w3.grownBy w' none := h.2.2.2.2.2.2
theorem fiv_below {w3 w' w'' : World} {p1 p2 p3 p4 p5 : Addr} {v1 v2 v3 v4 v5 : Value} (h : w'.cell? p1 = some v1 ∧ w'.cell? p2 = some v2 ∧ w'.cell? p3 = some v3 ∧ w'.cell? p4 = some v4 ∧ w'.cell? p5 = some v5 ∧ w3.grownBy w' none) (hb : w'.grownBy w'' none) :
    w''.cell? p1 = some v1 ∧ w''.cell? p2 = some v2 ∧ w''.cell? p3 = some v3 ∧ w''.cell? p4 = some v4 ∧ w''.cell? p5 = some v5 ∧ w3.grownBy w'' none :=
  ⟨cell_grown h.1 hb (by simp), cell_grown h.2.1 hb (by simp), cell_grown h.2.2.1 hb (by simp), cell_grown h.2.2.2.1 hb (by simp), cell_grown h.2.2.2.2.1 hb (by simp), World.grownBy.trans h.2.2.2.2.2 hb⟩
theorem fiv_last {w3 w' : World} {p1 p2 p3 p4 p5 : Addr} {v1 v2 v3 v4 v5 : Value} (h : w'.cell? p1 = some v1 ∧ w'.cell? p2 = some v2 ∧ w'.cell? p3 = some v3 ∧ w'.cell? p4 = some v4 ∧ w'.cell? p5 = some v5 ∧ w3.grownBy w' none) : w3.grownBy w' none := h.2.2.2.2.2

def spec_FirstToEat.f (a0_0 : Int) (a0_1 : Int) (a1 : Int) : Option (Bool × Int × Bool) := some (if okB a0_0 a0_1 ∧ 0 < a1 ∧ a1 < a0_0 * a0_1 then ((firstC a0_0.toNat a0_1.toNat a1.toNat).1, ((firstC a0_0.toNat a0_1.toNat a1.toNat).2 : Int), true) else (false, 0, false))
set_option maxHeartbeats 8000000 in
set_option maxRecDepth 100000 in
theorem first_any (a b s : Nat) (hok : okB (a : Int) (b : Int)) (h0 : 0 < s) (h1 : s < a * b) (w : World) :
    Calls Try.prog 18 #[.agg #[.int .i64 a, .int .i64 b], .int .i64 s] w fun e w' => e = .returned (.tuple #[.bool (firstC a b s).1, .int .i64 (firstC a b s).2, .bool true]) ∧ Below w.heap.size w w' := by
  have hu25 := Try.underlying25
  have hib := fun w => spec_brSome.calls a b s _ w (brSome_eq a b s)
  rw [decide_eq_true ⟨hok, by omega, by rw [← Int.natCast_mul]; omega⟩] at hib
  have ha : 1 ≤ a := by have := hok.1; omega
  have hb : 1 ≤ b := by have := hok.2; omega
  have hab : (1 ≤ a ∧ a ≤ 12) ∧ 1 ≤ b ∧ b ≤ 12 := by have h1 := hok.1; have h2 := hok.2; omega
  have hpr2 := prod_in hok
  have heat := fun W => brEat_any a b hok W
  have hsome := good_some ha hb h0 h1
  obtain ⟨p, hp⟩ : ∃ p, a * b = p := ⟨_, rfl⟩
  have hmul : (a : Int) * (b : Int) = (p : Int) := by rw [← Int.natCast_mul, hp]
  rw [hp] at h1
  rw [hmul] at hpr2
  obtain ⟨z, hz⟩ : ∃ z, E a b s = z := ⟨_, rfl⟩
  have HP := Aside0.mk hp
  have HZ := Aside0.mk hz
  have HAB := Aside0.mk hab
  have HSOME := Aside0.mk hsome
  have hwm2 : IntKind.i64.wrap ((a : Int) * (b : Int)) = (p : Int) := by rw [hmul, IntKind.wrap_i64]; omega
  have e1 : ((s : Int) == 0) = false := beq_eq_false_iff_ne.2 (by omega)
  have e2 : ((s : Int) == (p : Int)) = false := beq_eq_false_iff_ne.2 (by omega)
  have b1 : (a : Int) < (a : Int) + 1 := by omega
  have b2 : (b : Int) < (b : Int) + 1 := by omega
  have b3 : (s : Int) < (p : Int) + 1 := by omega
  have b4 : s < p + 1 := by omega
  clear hp hz hsome
  go_enter Try.func18, Try.ntmps18
  go_wp2_with (first
    | (go_at_call 41; refine (hib _).mono ?_; rintro e w2 ⟨rfl, hb2⟩; have s2 := box_below ⟨(blk_cell (blk_new w (.cells #[.int .i64 a, .int .i64 b] 25)) 0).trans rfl, (blk_cell (blk_new w (.cells #[.int .i64 a, .int .i64 b] 25)) 1).trans rfl, (Below.refl w.heap.size w).alloc (Nat.le_refl _) _⟩ hb2; have c0 : w2.cell? ⟨w.heap.size, 0, none⟩ = some (.int .i64 a) := s2.1; have c1 : w2.cell? ⟨w.heap.size, 1, none⟩ = some (.int .i64 b) := s2.2.1; have HS2 := Aside0.mk s2; clear hb2 s2)
    | (go_at_call 35; (with_reducible refine (heat _).mono ?_); rintro e w3 ⟨T, rfl, HT, hb3⟩; have s3 := box_below HS2.out hb3; have c0 : w3.cell? ⟨w.heap.size, 0, none⟩ = some (.int .i64 a) := s3.1; have c1 : w3.cell? ⟨w.heap.size, 1, none⟩ = some (.int .i64 b) := s3.2.1; obtain ⟨G0, C0, g1, g2, hC⟩ := eat_cell HT.out ha hb; have g3 := hC.cell s (by rw [HP.out]; exact b4) trivial; rw [HZ.out] at g3; rw [HP.out] at g2; have HS3 := Aside0.mk s3; clear hC hb3 s3))
  go_quiet (fail)
  have HBX : Aside0 ((w3.drewN nq).cell? ⟨w.heap.size, 0, none⟩ = some (.int .i64 (a : Int)) ∧ (w3.drewN nq).cell? ⟨w.heap.size, 1, none⟩ = some (.int .i64 (b : Int)) ∧ Below w.heap.size w (w3.drewN nq)) := ⟨HS3.out.1, HS3.out.2.1, pw_below_drewN HS3.out.2.2 _⟩
  have HT' : Aside0 (Tab (QE b T (w3.drewN nq).heap.size (w3.drewN nq)) 45 (a + 1) (fun _ => b + 1) (a + 1) (w3.drewN nq) T) := ⟨TabE.kept HT.out HT.out.lt (Nat.le_refl _) (grown_drewN w3 nq) (by simp)⟩
  clear HT HS3 HS2 c0 c1 g1 g2 g3
  have HT := HT'
  clear HT'
  generalize w3.drewN nq = w3 at HBX HT ⊢
  go_wp2
  go_loopg [9] a (fun gg s9 wr => ∃ t : Nat, 1 ≤ t ∧ t ≤ a ∧ a - t ≤ gg ∧ s9 = .int .i64 t ∧ Aside0 (∀ m, m < t - 1 → ∀ c', (cutsN a b)[m]? = some c' → good a b s c' = false) ∧ Aside0 (w3.grownBy wr none))
  case atStart => exact ⟨1, by omega, by omega, by omega, rfl, ⟨fun m hm => by omega⟩, ⟨World.grownBy.refl _ _⟩⟩
  case round =>
    obtain ⟨t, ht1, ht2, hgg, rfl, HNO, HG⟩ := hrel
    have k0 := cell_grown HBX.out.1 HG.out (by simp)
    have k1 := cell_grown HBX.out.2.1 HG.out (by simp)
    by_cases hltt : t < a
    · have hlttz : (t : Int) < (a : Int) := by omega
      obtain ⟨u, hu⟩ : ∃ u, a - t = u := ⟨_, rfl⟩
      obtain ⟨G1, c1, hq1⟩ := HT.out.at t ht1 (by omega) (by omega)
      obtain ⟨G2, c2, hq2⟩ := HT.out.at u (by omega) (by omega) (by omega)
      obtain ⟨C1, d1, hr1⟩ := hq1.2.at b hb (by omega) (by omega)
      obtain ⟨C2, d2, hr2⟩ := hq2.2.at b hb (by omega) (by omega)
      have hk1 : s ≤ t * b + u * b := by rw [← Nat.add_mul, show t + u = a by omega, HP.out]; omega
      have hsum := fun (w' : World) (hg : w3.grownBy w' none) => sum_rows (w1 := t) (h1 := b) (w2 := u) (h2 := b) (k := s) ⟨by omega, by omega⟩ ⟨hb, by omega⟩ ⟨by omega, by omega⟩ ⟨hb, by omega⟩ hk1 w' (hr1.2.new hg) (hr2.2.new hg)
      have hSE : SE a b (true, t) s = lmin (sums (E t b) (E u b) (t * b) (u * b) s) := by rw [← hu]; rfl
      have hcut := cuts_down (h := b) ht1 hltt
      have hmem : ((true, t) : Bool × Nat) ∈ cutsN a b := List.mem_of_getElem? hcut
      have hse := SE_bound (k := s) hmem HAB.out.1 HAB.out.2 (by rw [HP.out]; omega)
      have hpi := price_in (w := a) (h := b) true HAB.out.1 HAB.out.2
      have hpr := fun w => spec_brPrice.calls (a : Int) (b : Int) true _ w (price_eq true HAB.out.1 HAB.out.2)
      have hgood : good a b s (true, t) = decide (SE a b (true, t) s + price a b true = E a b s) := rfl
      rw [hSE] at hse hgood
      obtain ⟨sv, hsv⟩ : ∃ sv, lmin (sums (E t b) (E u b) (t * b) (u * b) s) = sv := ⟨_, rfl⟩
      obtain ⟨pv, hpv⟩ : ∃ pv, price a b true = pv := ⟨_, rfl⟩
      obtain ⟨x, hx⟩ : ∃ x, sv + pv = x := ⟨_, rfl⟩
      obtain ⟨p1, hp1⟩ : ∃ p1, t * b = p1 := ⟨_, rfl⟩
      obtain ⟨q1, hq1e⟩ : ∃ q1, u * b = q1 := ⟨_, rfl⟩
      rw [hsv] at hsum hse hgood
      rw [hpv] at hpi hpr hgood
      rw [hx, HZ.out] at hgood
      rw [hp1, hq1e] at hsum
      rw [hp1] at d1
      rw [hq1e] at d2
      have hws : IntKind.i64.wrap (sv + pv) = x := by rw [IntKind.wrap_i64]; omega
      have hw0 : IntKind.i64.wrap ((a : Int) - (t : Int)) = (u : Int) := by rw [IntKind.wrap_i64]; omega
      have bit : (t : Int) < (a : Int) + 1 := by omega
      have bnt : t < a + 1 := by omega
      have biu : (u : Int) < (a : Int) + 1 := by omega
      have bnu : u < a + 1 := by omega
      have bib : (b : Int) < (b : Int) + 1 := by omega
      have sw : wr.cell? ⟨w.heap.size, 0, none⟩ = some (.int .i64 (a : Int)) ∧ wr.cell? ⟨w.heap.size, 1, none⟩ = some (.int .i64 (b : Int)) ∧ wr.cell? ⟨T, t, none⟩ = some (.slice (some ⟨G1, 0, none⟩) (b + 1) (b + 1)) ∧ wr.cell? ⟨T, u, none⟩ = some (.slice (some ⟨G2, 0, none⟩) (b + 1) (b + 1)) ∧ wr.cell? ⟨G1, b, none⟩ = some (.slice (some ⟨C1, 0, none⟩) (p1 + 1) (p1 + 1)) ∧ wr.cell? ⟨G2, b, none⟩ = some (.slice (some ⟨C2, 0, none⟩) (q1 + 1) (q1 + 1)) ∧ w3.grownBy wr none := six_below ⟨HBX.out.1, HBX.out.2.1, c1, c2, d1, d2, World.grownBy.refl _ _⟩ HG.out
      have s0 : wr.drew.cell? ⟨w.heap.size, 0, none⟩ = some (.int .i64 (a : Int)) ∧ wr.drew.cell? ⟨w.heap.size, 1, none⟩ = some (.int .i64 (b : Int)) ∧ wr.drew.cell? ⟨T, t, none⟩ = some (.slice (some ⟨G1, 0, none⟩) (b + 1) (b + 1)) ∧ wr.drew.cell? ⟨T, u, none⟩ = some (.slice (some ⟨G2, 0, none⟩) (b + 1) (b + 1)) ∧ wr.drew.cell? ⟨G1, b, none⟩ = some (.slice (some ⟨C1, 0, none⟩) (p1 + 1) (p1 + 1)) ∧ wr.drew.cell? ⟨G2, b, none⟩ = some (.slice (some ⟨C2, 0, none⟩) (q1 + 1) (q1 + 1)) ∧ w3.grownBy wr.drew none := six_below sw (grown_drew wr)
      have hsum2 := fun (w' : World) (h : w'.cell? ⟨w.heap.size, 0, none⟩ = some (.int .i64 (a : Int)) ∧ w'.cell? ⟨w.heap.size, 1, none⟩ = some (.int .i64 (b : Int)) ∧ w'.cell? ⟨T, t, none⟩ = some (.slice (some ⟨G1, 0, none⟩) (b + 1) (b + 1)) ∧ w'.cell? ⟨T, u, none⟩ = some (.slice (some ⟨G2, 0, none⟩) (b + 1) (b + 1)) ∧ w'.cell? ⟨G1, b, none⟩ = some (.slice (some ⟨C1, 0, none⟩) (p1 + 1) (p1 + 1)) ∧ w'.cell? ⟨G2, b, none⟩ = some (.slice (some ⟨C2, 0, none⟩) (q1 + 1) (q1 + 1)) ∧ w3.grownBy w' none) => hsum w' h.2.2.2.2.2.2
      have HU := Aside0.mk hu
      have HCUT := Aside0.mk hcut
      have HGD := Aside0.mk hgood
      clear hSE hmem hsv hpv hx hp1 hq1e hse hpi hcut hk1 c1 d1 d2 hr1 hr2 hq1 hu hgood c2 hq2
      by_cases hxz : x = z
      · have hxt : (x == z) = true := beq_iff_eq.2 hxz
        have hxf : (x != z) = false := bne_eq_false_iff_eq.2 hxz
        have HGD2 : Aside0 (good a b s (true, t) = true) := ⟨by rw [HGD.out]; exact decide_eq_true hxz⟩
        clear hxz
        go_wp2
        go_region_held3 (fun w' => w'.cell? ⟨w.heap.size, 0, none⟩ = some (.int .i64 (a : Int)) ∧ w'.cell? ⟨w.heap.size, 1, none⟩ = some (.int .i64 (b : Int)) ∧ w'.cell? ⟨T, t, none⟩ = some (.slice (some ⟨G1, 0, none⟩) (b + 1) (b + 1)) ∧ w'.cell? ⟨T, u, none⟩ = some (.slice (some ⟨G2, 0, none⟩) (b + 1) (b + 1)) ∧ w'.cell? ⟨G1, b, none⟩ = some (.slice (some ⟨C1, 0, none⟩) (p1 + 1) (p1 + 1)) ∧ w'.cell? ⟨G2, b, none⟩ = some (.slice (some ⟨C2, 0, none⟩) (q1 + 1) (q1 + 1)) ∧ w3.grownBy w' none) (first | assumption | exact six_below (by assumption) (grown_drewN _ _))
          (first
            | (go_at_call 42; (with_reducible refine (hsum2 _ (by assumption)).mono ?_); rintro e w6 ⟨rfl, ⟨nd, rfl⟩⟩)
            | (go_at_call 43; (with_reducible refine (hpr _).mono ?_); rintro e w6 ⟨rfl, hb6⟩; have s6 := six_below (by assumption) (grown_of_below hb6 none); clear hb6))
        have hend := six_last (w3 := w3) (by assumption)
        have HEND := Aside0.mk hend
        clear hend s0 sw s6 hsum hsum2 hpr hws hw0
        have hf := first_at (s := s) HCUT.out HGD2.out HNO.out
        have HF := Aside0.mk hf
        clear hf
        go_wp2
        refine bodyPost_ret (v := .tuple #[.bool true, .int .i64 t, .bool true]) (by simp [results, Try.results18, go_sem]) rfl ⟨by rw [HF.out], below_new HBX.out.2.2 (HEND.out) (by simp) (Nat.le_refl _)⟩
      · have hxt : (x == z) = false := beq_eq_false_iff_ne.2 hxz
        have hxf : (x != z) = true := bne_iff_ne.2 hxz
        have HGD2 : Aside0 (good a b s (true, t) = false) := ⟨by rw [HGD.out]; exact decide_eq_false hxz⟩
        clear hxz
        go_wp2
        go_region_held3 (fun w' => w'.cell? ⟨w.heap.size, 0, none⟩ = some (.int .i64 (a : Int)) ∧ w'.cell? ⟨w.heap.size, 1, none⟩ = some (.int .i64 (b : Int)) ∧ w'.cell? ⟨T, t, none⟩ = some (.slice (some ⟨G1, 0, none⟩) (b + 1) (b + 1)) ∧ w'.cell? ⟨T, u, none⟩ = some (.slice (some ⟨G2, 0, none⟩) (b + 1) (b + 1)) ∧ w'.cell? ⟨G1, b, none⟩ = some (.slice (some ⟨C1, 0, none⟩) (p1 + 1) (p1 + 1)) ∧ w'.cell? ⟨G2, b, none⟩ = some (.slice (some ⟨C2, 0, none⟩) (q1 + 1) (q1 + 1)) ∧ w3.grownBy w' none) (first | assumption | exact six_below (by assumption) (grown_drewN _ _))
          (first
            | (go_at_call 42; (with_reducible refine (hsum2 _ (by assumption)).mono ?_); rintro e w6 ⟨rfl, ⟨nd, rfl⟩⟩)
            | (go_at_call 43; (with_reducible refine (hpr _).mono ?_); rintro e w6 ⟨rfl, hb6⟩; have s6 := six_below (by assumption) (grown_of_below hb6 none); clear hb6))
        have hend := six_last (w3 := w3) (by assumption)
        have HEND := Aside0.mk hend
        clear hend s0 sw s6 hsum hsum2 hpr hws hw0
        go_wp2
        go_roundg (a - (t + 1))
        case measure => have := HU.out; omega
        case rel => exact ⟨t + 1, by omega, by have := HU.out; omega, by omega, by go_num, ⟨fun m hm c' hc' => by
          by_cases he : m = t - 1
          · subst he; rw [HCUT.out] at hc'; injection hc' with hc'; rw [← hc']; exact HGD2.out
          · exact HNO.out m (by omega) c' hc'⟩, ⟨HEND.out⟩⟩
    · obtain rfl : t = a := by omega
      have hlttz : ¬ (t : Int) < (t : Int) := by omega
      go_wp2
      have HNO0 := HNO
      have HG0 := HG
      clear HNO HG k0 k1
      obtain ⟨a, rfl⟩ : ∃ a, a = t := ⟨_, rfl⟩
      clear ht1 ht2 hgg
      go_loopg [10] b (fun gg s10 wr => ∃ t : Nat, 1 ≤ t ∧ t ≤ b ∧ b - t ≤ gg ∧ s10 = .int .i64 t ∧ Aside0 (∀ m, m < a - 1 + (t - 1) → ∀ c', (cutsN a b)[m]? = some c' → good a b s c' = false) ∧ Aside0 (w3.grownBy wr none))
      case atStart => exact ⟨1, by omega, by omega, by omega, rfl, HNO0, HG0⟩
      case round =>
        clear HNO0 HG0
        obtain ⟨t, ht1, ht2, hgg, rfl, HNO, HG⟩ := hrel
        have hltt : t < b := by
          rcases Nat.lt_or_ge t b with h | h
          · exact h
          · exfalso
            obtain ⟨c, hc, hg⟩ := HSOME.out
            obtain ⟨m, hm, rfl⟩ := List.mem_iff_getElem.1 hc
            have hl := cutsN_length a b
            have := HNO.out m (by omega) _ (List.getElem?_eq_getElem hm)
            rw [hg] at this
            cases this
        have k0 := cell_grown HBX.out.1 HG.out (by simp)
        have k1 := cell_grown HBX.out.2.1 HG.out (by simp)
        obtain ⟨u, hu⟩ : ∃ u, b - t = u := ⟨_, rfl⟩
        obtain ⟨G, c1, hq1⟩ := HT.out.at a ha (by omega) (by omega)
        obtain ⟨C1, d1, hr1⟩ := hq1.2.at t ht1 (by omega) (by omega)
        obtain ⟨C2, d2, hr2⟩ := hq1.2.at u (by omega) (by omega) (by omega)
        have hk1 : s ≤ a * t + a * u := by rw [← Nat.mul_add, show t + u = b by omega, HP.out]; omega
        have hsum := fun (w' : World) (hg : w3.grownBy w' none) => sum_rows (w1 := a) (h1 := t) (w2 := a) (h2 := u) (k := s) ⟨ha, by omega⟩ ⟨by omega, by omega⟩ ⟨ha, by omega⟩ ⟨by omega, by omega⟩ hk1 w' (hr1.2.new hg) (hr2.2.new hg)
        have hSE : SE a b (false, t) s = lmin (sums (E a t) (E a u) (a * t) (a * u) s) := by rw [← hu]; rfl
        have hcut := cuts_across (w := a) ht1 hltt
        have hmem : ((false, t) : Bool × Nat) ∈ cutsN a b := List.mem_of_getElem? hcut
        have hse := SE_bound (k := s) hmem HAB.out.1 HAB.out.2 (by rw [HP.out]; omega)
        have hpi := price_in (w := a) (h := b) false HAB.out.1 HAB.out.2
        have hpr := fun w => spec_brPrice.calls (a : Int) (b : Int) false _ w (price_eq false HAB.out.1 HAB.out.2)
        have hgood : good a b s (false, t) = decide (SE a b (false, t) s + price a b false = E a b s) := rfl
        rw [hSE] at hse hgood
        obtain ⟨sv, hsv⟩ : ∃ sv, lmin (sums (E a t) (E a u) (a * t) (a * u) s) = sv := ⟨_, rfl⟩
        obtain ⟨pv, hpv⟩ : ∃ pv, price a b false = pv := ⟨_, rfl⟩
        obtain ⟨x, hx⟩ : ∃ x, sv + pv = x := ⟨_, rfl⟩
        obtain ⟨p1, hp1⟩ : ∃ p1, a * t = p1 := ⟨_, rfl⟩
        obtain ⟨q1, hq1e⟩ : ∃ q1, a * u = q1 := ⟨_, rfl⟩
        rw [hsv] at hsum hse hgood
        rw [hpv] at hpi hpr hgood
        rw [hx, HZ.out] at hgood
        rw [hp1, hq1e] at hsum
        rw [hp1] at d1
        rw [hq1e] at d2
        have hws : IntKind.i64.wrap (sv + pv) = x := by rw [IntKind.wrap_i64]; omega
        have hw0 : IntKind.i64.wrap ((b : Int) - (t : Int)) = (u : Int) := by rw [IntKind.wrap_i64]; omega
        have bit : (t : Int) < (b : Int) + 1 := by omega
        have bnt : t < b + 1 := by omega
        have biu : (u : Int) < (b : Int) + 1 := by omega
        have bnu : u < b + 1 := by omega
        have bib : (a : Int) < (a : Int) + 1 := by omega
        have sw : wr.cell? ⟨w.heap.size, 0, none⟩ = some (.int .i64 (a : Int)) ∧ wr.cell? ⟨w.heap.size, 1, none⟩ = some (.int .i64 (b : Int)) ∧ wr.cell? ⟨T, a, none⟩ = some (.slice (some ⟨G, 0, none⟩) (b + 1) (b + 1)) ∧ wr.cell? ⟨G, t, none⟩ = some (.slice (some ⟨C1, 0, none⟩) (p1 + 1) (p1 + 1)) ∧ wr.cell? ⟨G, u, none⟩ = some (.slice (some ⟨C2, 0, none⟩) (q1 + 1) (q1 + 1)) ∧ w3.grownBy wr none := fiv_below ⟨HBX.out.1, HBX.out.2.1, c1, d1, d2, World.grownBy.refl _ _⟩ HG.out
        have s0 : wr.drew.cell? ⟨w.heap.size, 0, none⟩ = some (.int .i64 (a : Int)) ∧ wr.drew.cell? ⟨w.heap.size, 1, none⟩ = some (.int .i64 (b : Int)) ∧ wr.drew.cell? ⟨T, a, none⟩ = some (.slice (some ⟨G, 0, none⟩) (b + 1) (b + 1)) ∧ wr.drew.cell? ⟨G, t, none⟩ = some (.slice (some ⟨C1, 0, none⟩) (p1 + 1) (p1 + 1)) ∧ wr.drew.cell? ⟨G, u, none⟩ = some (.slice (some ⟨C2, 0, none⟩) (q1 + 1) (q1 + 1)) ∧ w3.grownBy wr.drew none := fiv_below sw (grown_drew wr)
        have hsum2 := fun (w' : World) (h : w'.cell? ⟨w.heap.size, 0, none⟩ = some (.int .i64 (a : Int)) ∧ w'.cell? ⟨w.heap.size, 1, none⟩ = some (.int .i64 (b : Int)) ∧ w'.cell? ⟨T, a, none⟩ = some (.slice (some ⟨G, 0, none⟩) (b + 1) (b + 1)) ∧ w'.cell? ⟨G, t, none⟩ = some (.slice (some ⟨C1, 0, none⟩) (p1 + 1) (p1 + 1)) ∧ w'.cell? ⟨G, u, none⟩ = some (.slice (some ⟨C2, 0, none⟩) (q1 + 1) (q1 + 1)) ∧ w3.grownBy w' none) => hsum w' h.2.2.2.2.2
        have HU := Aside0.mk hu
        have HCUT := Aside0.mk hcut
        have HGD := Aside0.mk hgood
        clear hSE hmem hsv hpv hx hp1 hq1e hse hpi hcut hk1 c1 d1 d2 hr1 hr2 hq1 hu hgood
        by_cases hxz : x = z
        · have hxt : (x == z) = true := beq_iff_eq.2 hxz
          have hxf : (x != z) = false := bne_eq_false_iff_eq.2 hxz
          have HGD2 : Aside0 (good a b s (false, t) = true) := ⟨by rw [HGD.out]; exact decide_eq_true hxz⟩
          clear hxz
          go_wp2
          go_region_held3 (fun w' => w'.cell? ⟨w.heap.size, 0, none⟩ = some (.int .i64 (a : Int)) ∧ w'.cell? ⟨w.heap.size, 1, none⟩ = some (.int .i64 (b : Int)) ∧ w'.cell? ⟨T, a, none⟩ = some (.slice (some ⟨G, 0, none⟩) (b + 1) (b + 1)) ∧ w'.cell? ⟨G, t, none⟩ = some (.slice (some ⟨C1, 0, none⟩) (p1 + 1) (p1 + 1)) ∧ w'.cell? ⟨G, u, none⟩ = some (.slice (some ⟨C2, 0, none⟩) (q1 + 1) (q1 + 1)) ∧ w3.grownBy w' none) (first | assumption | exact fiv_below (by assumption) (grown_drewN _ _))
            (first
              | (go_at_call 42; (with_reducible refine (hsum2 _ (by assumption)).mono ?_); rintro e w6 ⟨rfl, ⟨nd, rfl⟩⟩)
              | (go_at_call 43; (with_reducible refine (hpr _).mono ?_); rintro e w6 ⟨rfl, hb6⟩; have s6 := fiv_below (by assumption) (grown_of_below hb6 none); clear hb6))
          have hend := fiv_last (w3 := w3) (by assumption)
          have HEND := Aside0.mk hend
          clear hend s0 sw s6 hsum hsum2 hpr hws hw0
          have hf := first_at (s := s) HCUT.out HGD2.out HNO.out
          have HF := Aside0.mk hf
          clear hf
          go_wp2
          refine bodyPost_ret (v := .tuple #[.bool false, .int .i64 t, .bool true]) (by simp [results, Try.results18, go_sem]) rfl ⟨by rw [HF.out], below_new HBX.out.2.2 (HEND.out) (by simp) (Nat.le_refl _)⟩
        · have hxt : (x == z) = false := beq_eq_false_iff_ne.2 hxz
          have hxf : (x != z) = true := bne_iff_ne.2 hxz
          have HGD2 : Aside0 (good a b s (false, t) = false) := ⟨by rw [HGD.out]; exact decide_eq_false hxz⟩
          clear hxz
          go_wp2
          go_region_held3 (fun w' => w'.cell? ⟨w.heap.size, 0, none⟩ = some (.int .i64 (a : Int)) ∧ w'.cell? ⟨w.heap.size, 1, none⟩ = some (.int .i64 (b : Int)) ∧ w'.cell? ⟨T, a, none⟩ = some (.slice (some ⟨G, 0, none⟩) (b + 1) (b + 1)) ∧ w'.cell? ⟨G, t, none⟩ = some (.slice (some ⟨C1, 0, none⟩) (p1 + 1) (p1 + 1)) ∧ w'.cell? ⟨G, u, none⟩ = some (.slice (some ⟨C2, 0, none⟩) (q1 + 1) (q1 + 1)) ∧ w3.grownBy w' none) (first | assumption | exact fiv_below (by assumption) (grown_drewN _ _))
            (first
              | (go_at_call 42; (with_reducible refine (hsum2 _ (by assumption)).mono ?_); rintro e w6 ⟨rfl, ⟨nd, rfl⟩⟩)
              | (go_at_call 43; (with_reducible refine (hpr _).mono ?_); rintro e w6 ⟨rfl, hb6⟩; have s6 := fiv_below (by assumption) (grown_of_below hb6 none); clear hb6))
          have hend := fiv_last (w3 := w3) (by assumption)
          have HEND := Aside0.mk hend
          clear hend s0 sw s6 hsum hsum2 hpr hws hw0
          go_wp2
          go_roundg (b - (t + 1))
          case measure => have := HU.out; omega
          case rel => exact ⟨t + 1, by omega, by have := HU.out; omega, by omega, by go_num, ⟨fun m hm c' hc' => by
            by_cases he : m = a - 1 + (t - 1)
            · subst he; rw [HCUT.out] at hc'; injection hc' with hc'; rw [← hc']; exact HGD2.out
            · exact HNO.out m (by omega) c' hc'⟩, ⟨HEND.out⟩⟩

set_option maxHeartbeats 4000000 in
set_option maxRecDepth 100000 in
theorem spec_FirstToEat.calls (a0_0 : Int) (a0_1 : Int) (a1 : Int) (r1 : Bool) (r2 : Int) (r3 : Bool) (w : World) (h : spec_FirstToEat.f a0_0 a0_1 a1 = some (r1, r2, r3)) :
    Calls Try.prog 18 #[.agg #[.int .i64 a0_0, .int .i64 a0_1], .int .i64 a1] w fun e w' => e = .returned (.tuple #[.bool r1, .int .i64 r2, .bool r3]) ∧ Below w.heap.size w w' := by
  unfold spec_FirstToEat.f at h
  replace h := Option.some.inj h
  by_cases hc : okB a0_0 a0_1 ∧ 0 < a1 ∧ a1 < a0_0 * a0_1
  · rw [if_pos hc] at h
    simp only [Prod.mk.injEq] at h
    obtain ⟨rfl, rfl, rfl⟩ := h
    obtain ⟨hok, h0, h1⟩ := hc
    obtain ⟨a, rfl⟩ := Int.eq_ofNat_of_zero_le (a := a0_0) (by have := hok.1; omega)
    obtain ⟨b, rfl⟩ := Int.eq_ofNat_of_zero_le (a := a0_1) (by have := hok.2; omega)
    obtain ⟨s, rfl⟩ := Int.eq_ofNat_of_zero_le (a := a1) (by omega)
    rw [← Int.natCast_mul] at h1
    exact first_any a b s hok (by omega) (by omega) w
  · rw [if_neg hc] at h
    simp only [Prod.mk.injEq] at h
    obtain ⟨rfl, rfl, rfl⟩ := h
    have hu25 := Try.underlying25
    have hib := fun w => spec_brSome.calls a0_0 a0_1 a1 _ w (brSome_eq a0_0 a0_1 a1)
    by_cases hs : okB a0_0 a0_1 ∧ 0 ≤ a1 ∧ a1 ≤ a0_0 * a0_1
    · rw [decide_eq_true hs] at hib
      have hp := prod_in hs.1
      have hw : wrap64 (a0_0 * a0_1) = a0_0 * a0_1 := by unfold wrap64; omega
      have hor : a1 = 0 ∨ (a1 ≠ 0 ∧ a1 = a0_0 * a0_1) := by
        by_cases h0 : a1 = 0
        · exact .inl h0
        · refine .inr ⟨h0, ?_⟩
          by_cases h1 : a1 = a0_0 * a0_1
          · exact h1
          · exact absurd ⟨hs.1, by omega, by omega⟩ hc
      have hw2 : IntKind.i64.wrap (a0_0 * a0_1) = a0_0 * a0_1 := by rw [IntKind.wrap_i64]; omega
      clear hs hc
      rcases hor with h0 | ⟨h0, h1⟩
      · have e1 : (a1 == 0) = true := beq_iff_eq.2 h0
        clear h0
        go_enter Try.func18, Try.ntmps18
        go_wp2_with (go_at_call 41; refine (hib _).mono ?_; rintro e w2 ⟨rfl, hb2⟩; have HB2 := Aside0.mk hb2; clear hb2)
        refine bodyPost_ret (v := .tuple #[.bool false, .int .i64 0, .bool false]) (by simp [results, Try.results18, go_sem]) rfl ⟨rfl, below_then ((Below.refl _ _).alloc (Nat.le_refl _) _) (by simp) HB2.out⟩
      · have e1 : (a1 == 0) = false := beq_eq_false_iff_ne.2 h0
        have e2 : (a1 == a0_0 * a0_1) = true := beq_iff_eq.2 h1
        clear h0 h1
        go_enter Try.func18, Try.ntmps18
        go_wp2_with (go_at_call 41; refine (hib _).mono ?_; rintro e w2 ⟨rfl, hb2⟩; have s2 := box_below ⟨(blk_cell (blk_new w (.cells #[.int .i64 a0_0, .int .i64 a0_1] 25)) 0).trans rfl, (blk_cell (blk_new w (.cells #[.int .i64 a0_0, .int .i64 a0_1] 25)) 1).trans rfl, (Below.refl w.heap.size w).alloc (Nat.le_refl _) _⟩ hb2; have c0 : w2.cell? ⟨w.heap.size, 0, none⟩ = some (.int .i64 a0_0) := s2.1; have c1 : w2.cell? ⟨w.heap.size, 1, none⟩ = some (.int .i64 a0_1) := s2.2.1; have HS2 := Aside0.mk s2; clear hb2 s2)
        refine bodyPost_ret (v := .tuple #[.bool false, .int .i64 0, .bool false]) (by simp [results, Try.results18, go_sem]) rfl ⟨rfl, HS2.out.2.2⟩
    · rw [decide_eq_false hs] at hib
      clear hs hc
      go_enter Try.func18, Try.ntmps18
      go_wp2_with (go_at_call 41; refine (hib _).mono ?_; rintro e w2 ⟨rfl, hb2⟩; have HB2 := Aside0.mk hb2; clear hb2)
      refine bodyPost_ret (v := .tuple #[.bool false, .int .i64 0, .bool false]) (by simp [results, Try.results18, go_sem]) rfl ⟨rfl, below_then ((Below.refl _ _).alloc (Nat.le_refl _) _) (by simp) HB2.out⟩
end Go.Proofs.Ytkoplphcdkmilaa.All
end
section
namespace Go.Proofs.Ytkoplphcdkmilaa.All
open Go.RowKit Go.Proofs.YtkoplphcdkmilaaW.PrintWords Go.Proofs.YtkoplphcdkmilaaW.PrintLast Go.Proofs.YtkoplphcdkmilaaW.PrintMore
attribute [local go_sem] max2_int min2_int max_two min_two max_three min_three max_four min_four   -- for this text's walks alone
set_option linter.unusedVariables false
set_option linter.unusedSimpArgs false

def impl_CountTrees.f (a0_0 : Int) (a0_1 : Int) : Option (Int × Bool) := (impl_counted.f a0_0 a0_1 false).bind fun bt290 => (some (bt290.1, bt290.2))
set_option maxHeartbeats 8000000 in
set_option maxRecDepth 100000 in
theorem impl_CountTrees.calls (a0_0 : Int) (a0_1 : Int) (r1 : Int) (r2 : Bool) (w : World) (h : impl_CountTrees.f a0_0 a0_1 = some (r1, r2)) :
    Calls Try.prog 6 #[.agg #[.int .i64 a0_0, .int .i64 a0_1]] w fun e w' => e = .returned (.tuple #[.int .i64 r1, .bool r2]) ∧ Below w.heap.size w w' := by
  have hu25 := Try.underlying25
  have HB := Aside0.mk (Below.refl w.heap.size w)
  have H : ((impl_counted.f a0_0 a0_1 false).bind fun bt290 => (some (bt290.1, bt290.2))) = some (r1, r2) := h
  clear h
  replace H := Option.bind_eq_some_iff.mp H
  obtain ⟨⟨t290, t291⟩, A20, H⟩ := H
  replace H : (some (t290, t291)) = some (r1, r2) := H
  have A2 := Aside0.mk A20
  clear A20
  simp only [Option.some.injEq, Prod.mk.injEq] at H
  obtain ⟨rfl, rfl⟩ := H
  go_enter Try.func6, Try.ntmps6
  go_wp2_with (first | ((with_reducible refine gate_dst (N := 1) rfl ?_); refine box_event ?hg (N := 1) ?hd (cs := #[.int .i64 a0_0, .int .i64 a0_1]) (t := 25) ?hr ?_; (case hd => rfl); (case hg => rfl); (case hr => first | (go_simp; done) | (go_simp; rfl)); intro gb289 hg w3 hbox hb; have n0_ := Aside0.mk (below_step (by repeat (first | (with_reducible first | exact HB.out | apply below_alloc | apply pw_below_drewN | apply below_drew1) | exact HB.out)) hb); have n1_ := Aside0.mk (hbox); have n2_ := Aside0.mk ((by rw [hg]; exact (below_size (by repeat (first | (with_reducible first | exact HB.out | apply below_alloc | apply pw_below_drewN | apply below_drew1) | exact HB.out))) : w.heap.size ≤ gb289)); have n3_ := Aside0.mk ((by rw [hg]; exact (below_size (by repeat (first | (with_reducible first | exact HB.out | apply below_alloc | apply pw_below_drewN | apply below_drew1) | exact HB.out))) : w.heap.size ≤ gb289)); clear HB; have HB := n0_; have BK289 := n1_; have GW289 := n2_; have GE289 := n3_; clear n0_ n1_ n2_ n3_; clear hb hbox hg; have hcz4_0 : w3.cell? ⟨gb289, 0, none⟩ = some (.int .i64 a0_0) := (blk_cell BK289.out 0).trans rfl; have hcz4_1 : w3.cell? ⟨gb289, 1, none⟩ = some (.int .i64 a0_1) := (blk_cell BK289.out 1).trans rfl; have hfz4_0 := blk_frozen BK289.out 0; have hfz4_1 := blk_frozen BK289.out 1) | ((with_reducible refine gate_callee (f := 27) rfl ?_); refine goesL_ (some 5) rfl rfl Try.func27 (by kernel_rfl) rfl #[.agg #[.int .i64 a0_0, .int .i64 a0_1], .bool false] rfl (by (try simp only [List.map_toArray, List.map_cons, List.map_nil]); first | done | rfl | (simp only [List.length_drop, List.length_take]; rfl)) ?_; (with_reducible refine (impl_counted.calls a0_0 a0_1 false t290 t291 _ A2.out).mono ?_); rintro e w5 ⟨rfl, hb⟩; refine ⟨_, rfl, ?_⟩; have n0_ := Aside0.mk (blk_below (g := gb289) (o := .cells #[.int .i64 a0_0, .int .i64 a0_1] 25 (0, 0)) (by (with_reducible repeat (first | refine blk_drewN ?_ _ | refine blk_drew ?_ | refine blk_alloc ?_ _)); exact BK289.out) hb); have n1_ := Aside0.mk (below_step (by repeat (first | (with_reducible first | exact HB.out | apply below_alloc | apply pw_below_drewN | apply below_drew1 | refine below_set ?_ GE289.out) | exact HB.out)) hb); clear BK289; clear HB; have BK289 := n0_; have HB := n1_; clear n0_ n1_; (try clear hb); (try clear hb2); (try clear hk); (try clear hi)))
  go_ret2
  exact ⟨by first | rfl | (simp [errW_none, errW_some] <;> rfl) | (simp [*, errW_none, errW_some] <;> rfl), by repeat (first | (with_reducible first | exact HB.out | apply below_alloc | apply pw_below_drewN | apply below_drew1 | refine below_set ?_ GE289.out) | exact HB.out)⟩

end Go.Proofs.Ytkoplphcdkmilaa.All
end
section
namespace Go.Proofs.Ytkoplphcdkmilaa.All
open Go.RowKit Go.Proofs.YtkoplphcdkmilaaW.PrintWords Go.Proofs.YtkoplphcdkmilaaW.PrintLast Go.Proofs.YtkoplphcdkmilaaW.PrintMore
attribute [local go_sem] max2_int min2_int max_two min_two max_three min_three max_four min_four   -- for this text's walks alone
set_option linter.unusedVariables false
set_option linter.unusedSimpArgs false

def spec_CountTrees.f (a0_0 : Int) (a0_1 : Int) : Option (Int × Bool) := (spec_brGood.f a0_0 a0_1).bind fun t293 => (if t293 = true then ((spec_brCounts.f a0_0 a0_1 false).bind fun t294 => (if t294 > 1000000000000000 then (some (0, false)) else (some (t294, true)))) else (some (0, false)))
set_option maxHeartbeats 8000000 in
set_option maxRecDepth 100000 in
theorem spec_CountTrees.calls (a0_0 : Int) (a0_1 : Int) (r1 : Int) (r2 : Bool) (w : World) (h : spec_CountTrees.f a0_0 a0_1 = some (r1, r2)) :
    Calls Try.prog 7 #[.agg #[.int .i64 a0_0, .int .i64 a0_1]] w fun e w' => e = .returned (.tuple #[.int .i64 r1, .bool r2]) ∧ Below w.heap.size w w' := by
  have hu25 := Try.underlying25
  have HB := Aside0.mk (Below.refl w.heap.size w)
  have H : ((spec_brGood.f a0_0 a0_1).bind fun t293 => (if t293 = true then ((spec_brCounts.f a0_0 a0_1 false).bind fun t294 => (if t294 > 1000000000000000 then (some (0, false)) else (some (t294, true)))) else (some (0, false)))) = some (r1, r2) := h
  clear h
  replace H := Option.bind_eq_some_iff.mp H
  obtain ⟨t293, A20, H⟩ := H
  replace H : (if t293 = true then ((spec_brCounts.f a0_0 a0_1 false).bind fun t294 => (if t294 > 1000000000000000 then (some (0, false)) else (some (t294, true)))) else (some (0, false))) = some (r1, r2) := H
  have A2 := Aside0.mk A20
  clear A20
  by_cases c3 : t293 = true
  · subst c3
    have H1 : ((spec_brCounts.f a0_0 a0_1 false).bind fun t294 => (if t294 > 1000000000000000 then (some (0, false)) else (some (t294, true)))) = some (r1, r2) := by rw [if_pos rfl] at H; exact H
    clear H
    have H := H1
    clear H1
    replace H := Option.bind_eq_some_iff.mp H
    obtain ⟨t294, A40, H⟩ := H
    replace H : (if t294 > 1000000000000000 then (some (0, false)) else (some (t294, true))) = some (r1, r2) := H
    have A4 := Aside0.mk A40
    clear A40
    by_cases c5 : t294 > 1000000000000000
    · rw [if_pos c5] at H
      have c5b0 : decide (1000000000000000 < t294) = true := decide_eq_true c5
      clear c5
      simp only [Option.some.injEq, Prod.mk.injEq] at H
      obtain ⟨rfl, rfl⟩ := H
      go_enter Try.func7, Try.ntmps7
      go_wp2_with (first | ((with_reducible refine gate_dst (N := 1) rfl ?_); refine box_event ?hg (N := 1) ?hd (cs := #[.int .i64 a0_0, .int .i64 a0_1]) (t := 25) ?hr ?_; (case hd => rfl); (case hg => rfl); (case hr => first | (go_simp; done) | (go_simp; rfl)); intro gb292 hg w6 hbox hb; have n0_ := Aside0.mk (below_step (by repeat (first | (with_reducible first | exact HB.out | apply below_alloc | apply pw_below_drewN | apply below_drew1) | exact HB.out)) hb); have n1_ := Aside0.mk (hbox); have n2_ := Aside0.mk ((by rw [hg]; exact (below_size (by repeat (first | (with_reducible first | exact HB.out | apply below_alloc | apply pw_below_drewN | apply below_drew1) | exact HB.out))) : w.heap.size ≤ gb292)); have n3_ := Aside0.mk ((by rw [hg]; exact (below_size (by repeat (first | (with_reducible first | exact HB.out | apply below_alloc | apply pw_below_drewN | apply below_drew1) | exact HB.out))) : w.heap.size ≤ gb292)); clear HB; have HB := n0_; have BK292 := n1_; have GW292 := n2_; have GE292 := n3_; clear n0_ n1_ n2_ n3_; clear hb hbox hg; have hcz7_0 : w6.cell? ⟨gb292, 0, none⟩ = some (.int .i64 a0_0) := (blk_cell BK292.out 0).trans rfl; have hcz7_1 : w6.cell? ⟨gb292, 1, none⟩ = some (.int .i64 a0_1) := (blk_cell BK292.out 1).trans rfl; have hfz7_0 := blk_frozen BK292.out 0; have hfz7_1 := blk_frozen BK292.out 1) | ((with_reducible refine gate_callee (f := 28) rfl ?_); refine goesL_ (some 6) rfl rfl Try.func28 (by kernel_rfl) rfl #[.agg #[.int .i64 a0_0, .int .i64 a0_1]] rfl (by (try simp only [List.map_toArray, List.map_cons, List.map_nil]); first | done | rfl | (simp only [List.length_drop, List.length_take]; rfl)) ?_; (with_reducible refine (spec_brGood.calls a0_0 a0_1 true _ A2.out).mono ?_); rintro e w8 ⟨rfl, hb⟩; refine ⟨_, rfl, ?_⟩; have n0_ := Aside0.mk (blk_below (g := gb292) (o := .cells #[.int .i64 a0_0, .int .i64 a0_1] 25 (0, 0)) (by (with_reducible repeat (first | refine blk_drewN ?_ _ | refine blk_drew ?_ | refine blk_alloc ?_ _)); exact BK292.out) hb); have n1_ := Aside0.mk (below_step (by repeat (first | (with_reducible first | exact HB.out | apply below_alloc | apply pw_below_drewN | apply below_drew1 | refine below_set ?_ GE292.out) | exact HB.out)) hb); clear BK292; clear HB; have BK292 := n0_; have HB := n1_; clear n0_ n1_; (try clear hb); (try clear hb2); (try clear hk); (try clear hi); have hcz9_0 : w8.cell? ⟨gb292, 0, none⟩ = some (.int .i64 a0_0) := (blk_cell BK292.out 0).trans rfl; have hcz9_1 : w8.cell? ⟨gb292, 1, none⟩ = some (.int .i64 a0_1) := (blk_cell BK292.out 1).trans rfl; have hfz9_0 := blk_frozen BK292.out 0; have hfz9_1 := blk_frozen BK292.out 1) | ((with_reducible refine gate_callee (f := 29) rfl ?_); refine goesL_ (some 9) rfl rfl Try.func29 (by kernel_rfl) rfl #[.agg #[.int .i64 a0_0, .int .i64 a0_1], .bool false] rfl (by (try simp only [List.map_toArray, List.map_cons, List.map_nil]); first | done | rfl | (simp only [List.length_drop, List.length_take]; rfl)) ?_; (with_reducible refine (spec_brCounts.calls a0_0 a0_1 false t294 _ A4.out).mono ?_); rintro e w10 ⟨rfl, hb⟩; refine ⟨_, rfl, ?_⟩; have n0_ := Aside0.mk (blk_below (g := gb292) (o := .cells #[.int .i64 a0_0, .int .i64 a0_1] 25 (0, 0)) (by (with_reducible repeat (first | refine blk_drewN ?_ _ | refine blk_drew ?_ | refine blk_alloc ?_ _)); exact BK292.out) hb); have n1_ := Aside0.mk (below_step (by repeat (first | (with_reducible first | exact HB.out | apply below_alloc | apply pw_below_drewN | apply below_drew1 | refine below_set ?_ GE292.out) | exact HB.out)) hb); clear BK292; clear HB; have BK292 := n0_; have HB := n1_; clear n0_ n1_; (try clear hb); (try clear hb2); (try clear hk); (try clear hi)))
      go_ret2
      exact ⟨by first | rfl | (simp [errW_none, errW_some] <;> rfl) | (simp [*, errW_none, errW_some] <;> rfl), by repeat (first | (with_reducible first | exact HB.out | apply below_alloc | apply pw_below_drewN | apply below_drew1 | refine below_set ?_ GE292.out) | exact HB.out)⟩
    · rw [if_neg c5] at H
      have c5b0 : decide (1000000000000000 < t294) = false := decide_eq_false c5
      clear c5
      simp only [Option.some.injEq, Prod.mk.injEq] at H
      obtain ⟨rfl, rfl⟩ := H
      go_enter Try.func7, Try.ntmps7
      go_wp2_with (first | ((with_reducible refine gate_dst (N := 1) rfl ?_); refine box_event ?hg (N := 1) ?hd (cs := #[.int .i64 a0_0, .int .i64 a0_1]) (t := 25) ?hr ?_; (case hd => rfl); (case hg => rfl); (case hr => first | (go_simp; done) | (go_simp; rfl)); intro gb292 hg w11 hbox hb; have n0_ := Aside0.mk (below_step (by repeat (first | (with_reducible first | exact HB.out | apply below_alloc | apply pw_below_drewN | apply below_drew1) | exact HB.out)) hb); have n1_ := Aside0.mk (hbox); have n2_ := Aside0.mk ((by rw [hg]; exact (below_size (by repeat (first | (with_reducible first | exact HB.out | apply below_alloc | apply pw_below_drewN | apply below_drew1) | exact HB.out))) : w.heap.size ≤ gb292)); have n3_ := Aside0.mk ((by rw [hg]; exact (below_size (by repeat (first | (with_reducible first | exact HB.out | apply below_alloc | apply pw_below_drewN | apply below_drew1) | exact HB.out))) : w.heap.size ≤ gb292)); clear HB; have HB := n0_; have BK292 := n1_; have GW292 := n2_; have GE292 := n3_; clear n0_ n1_ n2_ n3_; clear hb hbox hg; have hcz12_0 : w11.cell? ⟨gb292, 0, none⟩ = some (.int .i64 a0_0) := (blk_cell BK292.out 0).trans rfl; have hcz12_1 : w11.cell? ⟨gb292, 1, none⟩ = some (.int .i64 a0_1) := (blk_cell BK292.out 1).trans rfl; have hfz12_0 := blk_frozen BK292.out 0; have hfz12_1 := blk_frozen BK292.out 1) | ((with_reducible refine gate_callee (f := 28) rfl ?_); refine goesL_ (some 6) rfl rfl Try.func28 (by kernel_rfl) rfl #[.agg #[.int .i64 a0_0, .int .i64 a0_1]] rfl (by (try simp only [List.map_toArray, List.map_cons, List.map_nil]); first | done | rfl | (simp only [List.length_drop, List.length_take]; rfl)) ?_; (with_reducible refine (spec_brGood.calls a0_0 a0_1 true _ A2.out).mono ?_); rintro e w13 ⟨rfl, hb⟩; refine ⟨_, rfl, ?_⟩; have n0_ := Aside0.mk (blk_below (g := gb292) (o := .cells #[.int .i64 a0_0, .int .i64 a0_1] 25 (0, 0)) (by (with_reducible repeat (first | refine blk_drewN ?_ _ | refine blk_drew ?_ | refine blk_alloc ?_ _)); exact BK292.out) hb); have n1_ := Aside0.mk (below_step (by repeat (first | (with_reducible first | exact HB.out | apply below_alloc | apply pw_below_drewN | apply below_drew1 | refine below_set ?_ GE292.out) | exact HB.out)) hb); clear BK292; clear HB; have BK292 := n0_; have HB := n1_; clear n0_ n1_; (try clear hb); (try clear hb2); (try clear hk); (try clear hi); have hcz14_0 : w13.cell? ⟨gb292, 0, none⟩ = some (.int .i64 a0_0) := (blk_cell BK292.out 0).trans rfl; have hcz14_1 : w13.cell? ⟨gb292, 1, none⟩ = some (.int .i64 a0_1) := (blk_cell BK292.out 1).trans rfl; have hfz14_0 := blk_frozen BK292.out 0; have hfz14_1 := blk_frozen BK292.out 1) | ((with_reducible refine gate_callee (f := 29) rfl ?_); refine goesL_ (some 9) rfl rfl Try.func29 (by kernel_rfl) rfl #[.agg #[.int .i64 a0_0, .int .i64 a0_1], .bool false] rfl (by (try simp only [List.map_toArray, List.map_cons, List.map_nil]); first | done | rfl | (simp only [List.length_drop, List.length_take]; rfl)) ?_; (with_reducible refine (spec_brCounts.calls a0_0 a0_1 false t294 _ A4.out).mono ?_); rintro e w15 ⟨rfl, hb⟩; refine ⟨_, rfl, ?_⟩; have n0_ := Aside0.mk (blk_below (g := gb292) (o := .cells #[.int .i64 a0_0, .int .i64 a0_1] 25 (0, 0)) (by (with_reducible repeat (first | refine blk_drewN ?_ _ | refine blk_drew ?_ | refine blk_alloc ?_ _)); exact BK292.out) hb); have n1_ := Aside0.mk (below_step (by repeat (first | (with_reducible first | exact HB.out | apply below_alloc | apply pw_below_drewN | apply below_drew1 | refine below_set ?_ GE292.out) | exact HB.out)) hb); clear BK292; clear HB; have BK292 := n0_; have HB := n1_; clear n0_ n1_; (try clear hb); (try clear hb2); (try clear hk); (try clear hi)))
      go_ret2
      exact ⟨by first | rfl | (simp [errW_none, errW_some] <;> rfl) | (simp [*, errW_none, errW_some] <;> rfl), by repeat (first | (with_reducible first | exact HB.out | apply below_alloc | apply pw_below_drewN | apply below_drew1 | refine below_set ?_ GE292.out) | exact HB.out)⟩
  · replace c3 := Bool.eq_false_iff.mpr c3
    subst c3
    have H1 : (some (0, false)) = some (r1, r2) := by rw [if_neg (show ¬ (false = true) by decide)] at H; exact H
    clear H
    have H := H1
    clear H1
    simp only [Option.some.injEq, Prod.mk.injEq] at H
    obtain ⟨rfl, rfl⟩ := H
    go_enter Try.func7, Try.ntmps7
    go_wp2_with (first | ((with_reducible refine gate_dst (N := 1) rfl ?_); refine box_event ?hg (N := 1) ?hd (cs := #[.int .i64 a0_0, .int .i64 a0_1]) (t := 25) ?hr ?_; (case hd => rfl); (case hg => rfl); (case hr => first | (go_simp; done) | (go_simp; rfl)); intro gb292 hg w16 hbox hb; have n0_ := Aside0.mk (below_step (by repeat (first | (with_reducible first | exact HB.out | apply below_alloc | apply pw_below_drewN | apply below_drew1) | exact HB.out)) hb); have n1_ := Aside0.mk (hbox); have n2_ := Aside0.mk ((by rw [hg]; exact (below_size (by repeat (first | (with_reducible first | exact HB.out | apply below_alloc | apply pw_below_drewN | apply below_drew1) | exact HB.out))) : w.heap.size ≤ gb292)); have n3_ := Aside0.mk ((by rw [hg]; exact (below_size (by repeat (first | (with_reducible first | exact HB.out | apply below_alloc | apply pw_below_drewN | apply below_drew1) | exact HB.out))) : w.heap.size ≤ gb292)); clear HB; have HB := n0_; have BK292 := n1_; have GW292 := n2_; have GE292 := n3_; clear n0_ n1_ n2_ n3_; clear hb hbox hg; have hcz17_0 : w16.cell? ⟨gb292, 0, none⟩ = some (.int .i64 a0_0) := (blk_cell BK292.out 0).trans rfl; have hcz17_1 : w16.cell? ⟨gb292, 1, none⟩ = some (.int .i64 a0_1) := (blk_cell BK292.out 1).trans rfl; have hfz17_0 := blk_frozen BK292.out 0; have hfz17_1 := blk_frozen BK292.out 1) | ((with_reducible refine gate_callee (f := 28) rfl ?_); refine goesL_ (some 6) rfl rfl Try.func28 (by kernel_rfl) rfl #[.agg #[.int .i64 a0_0, .int .i64 a0_1]] rfl (by (try simp only [List.map_toArray, List.map_cons, List.map_nil]); first | done | rfl | (simp only [List.length_drop, List.length_take]; rfl)) ?_; (with_reducible refine (spec_brGood.calls a0_0 a0_1 false _ A2.out).mono ?_); rintro e w18 ⟨rfl, hb⟩; refine ⟨_, rfl, ?_⟩; have n0_ := Aside0.mk (blk_below (g := gb292) (o := .cells #[.int .i64 a0_0, .int .i64 a0_1] 25 (0, 0)) (by (with_reducible repeat (first | refine blk_drewN ?_ _ | refine blk_drew ?_ | refine blk_alloc ?_ _)); exact BK292.out) hb); have n1_ := Aside0.mk (below_step (by repeat (first | (with_reducible first | exact HB.out | apply below_alloc | apply pw_below_drewN | apply below_drew1 | refine below_set ?_ GE292.out) | exact HB.out)) hb); clear BK292; clear HB; have BK292 := n0_; have HB := n1_; clear n0_ n1_; (try clear hb); (try clear hb2); (try clear hk); (try clear hi)))
    go_ret2
    exact ⟨by first | rfl | (simp [errW_none, errW_some] <;> rfl) | (simp [*, errW_none, errW_some] <;> rfl), by repeat (first | (with_reducible first | exact HB.out | apply below_alloc | apply pw_below_drewN | apply below_drew1 | refine below_set ?_ GE292.out) | exact HB.out)⟩

end Go.Proofs.Ytkoplphcdkmilaa.All
end
