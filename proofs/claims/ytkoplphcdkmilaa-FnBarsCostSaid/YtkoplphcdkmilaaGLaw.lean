/- The law FnBarsCost answers true where the functions that it calls answer as said: a walk through the law. Conditions: the answers, as hypotheses. -/
import Derived.BigQuiet
import Derived.Deep.CutRange
import Derived.Test.YtkoplphcdkmilaaK27
namespace Go.Proofs.Ytkoplphcdkmilaa.All
open Go.Shelf Go.Lib Go.Sort Go.RowKit Go.Proofs.YtkoplphcdkmilaaW.PrintWords Go.Proofs.YtkoplphcdkmilaaW.PrintLast Go.Proofs.YtkoplphcdkmilaaW.PrintMore GSteps GBar PCount PImpl PEat GTab
set_option linter.unusedVariables false
set_option linter.unusedSimpArgs false

set_option maxHeartbeats 400000000 in
set_option maxRecDepth 100000 in
theorem law_any (A0 : Option Addr) (c0 : Nat) (l0 : List Int) (A1 : Option Addr) (c1 : Nat) (l1 : List Int) (w : World) (hr0 : Kd.C (Kd.int .u8) w A0 l0.length l0) (hc0 : l0.length ≤ c0) (hr1 : Kd.C (Kd.int .u8) w A1 l1.length l1) (hc1 : l1.length ≤ c1)
    (hbig : laws_big.f l0 l1 = some false) (W H : Int) (hd : spec_DrawCountTrees.f l0 = some (W, H)) (tr : Int) (ok : Bool) (ht : impl_CountTrees.f W H = some (tr, ok)) (hts : spec_CountTrees.f W H = some (tr, ok))
    (od : Int) (one : Bool) (ho : impl_CountOrders.f W H = some (od, one)) (hos : spec_CountOrders.f W H = some (od, one))
    (ch le : Int) (three : Bool) (hch : impl_CheapestToEat.f W H = some (ch, le, three)) (hchs : spec_CheapestToEat.f W H = some (ch, le, three))
    (U V q : Int) (hd2 : spec_DrawFirstToEat.f l1 = some (U, V, q)) (dn : Bool) (p : Int) (five : Bool) (hfi : impl_FirstToEat.f U V q = some (dn, p, five)) (hfis : spec_FirstToEat.f U V q = some (dn, p, five))
    (cost : Int) (seven : Bool) (hl : impl_LeastToEat.f U V q = some (cost, seven)) (hls : spec_LeastToEat.f U V q = some (cost, seven))
    (kd kl ko kh : Nat) (X Y : List Int) (hdl : spec_DrawLeastByLines.f kd l1 = some (X, Y)) (ln : Int) (nine : Bool) (hln : impl_LeastByLines.f X Y = some (ln, nine)) (hlns : spec_LeastByLines.f kl X Y = some (ln, nine))
    (ro : List (List Int)) (hor : impl_OrderByLines.f X Y = some (ro, nine)) (hors : spec_OrderByLines.f ko X Y = some (ro, nine)) (hhr : laws_hRows.f kh ro ro = some true)
    (f1 : one = true → ok = true ∧ ¬ od < tr) (f2 : ok = true → ¬ tr < 1 ∧ impl_IsBar.f W H = some true) :
    Calls Try.prog 3 #[.slice A0 l0.length c0, .slice A1 l1.length c1] w fun e w' => e = .returned (.bool true) ∧ Below w.heap.size w w' := by
  have HR0 := Aside0.mk hr0
  have HR1 := Aside0.mk hr1
  clear hr0 hr1
  have hu25 := Try.underlying25
  have tok4 := True.intro
  have tok5 := True.intro
  have tok6 := True.intro
  have tok7 := True.intro
  have tok8 := True.intro
  have tok9 := True.intro
  have tok10 := True.intro
  have tok11 := True.intro
  have tok12 := True.intro
  go_enter Try.func3, Try.ntmps3
  go_upto_region 10 with (first
    | (go_at_call 4; clear tok4; refine (laws_big.calls A0 c0 l0 A1 c1 l1 false _ HR0.out hc0 HR1.out hc1 hbig).mono ?_; rintro e w1 ⟨rfl, ⟨⟨n1, rfl⟩⟩⟩)
    | (go_at_call 5; clear tok5; refine (spec_DrawCountTrees.calls A0 c0 l0 W H _ (Kd.C_drewN HR0.out n1) hc0 hd).mono ?_; rintro e w2 ⟨rfl, hb⟩; have HB := Aside0.mk (below_alloc (below_then (pw_below_drewN (Below.refl w.heap.size w) n1) (Nat.le_refl _) hb) (.cells #[.int .i64 W, .int .i64 H] 25)); have KA := Aside0.mk (show (w2.alloc (.cells #[.int .i64 W, .int .i64 H] 25)).cell? ⟨w2.heap.size, 0, none⟩ = some (.int .i64 W) by simp); have KB := Aside0.mk (show (w2.alloc (.cells #[.int .i64 W, .int .i64 H] 25)).cell? ⟨w2.heap.size, 1, none⟩ = some (.int .i64 H) by simp); have ka := True.intro; have kb := True.intro; clear hb)
    | (go_at_call 6; clear tok6; refine (impl_CountTrees.calls W H tr ok _ ht).mono ?_; rintro e w3 ⟨rfl, hb⟩; have nKA := Aside0.mk ((hb.cell (World.block_lt_of_cell? _ _ KA.out)).trans KA.out); have nKB := Aside0.mk ((hb.cell (World.block_lt_of_cell? _ _ KB.out)).trans KB.out); have nHB := Aside0.mk (below_then HB.out HB.out.size hb); clear hb HB KA ka KB kb; have HB := nHB; have KA := nKA; have ka := KA.out; have KB := nKB; have kb := KB.out; clear nHB nKA nKB)
    | (go_at_call 7; clear tok7; refine (spec_CountTrees.calls W H tr ok _ hts).mono ?_; rintro e w4 ⟨rfl, hb⟩; have nKA := Aside0.mk ((hb.cell (World.block_lt_of_cell? _ _ KA.out)).trans KA.out); have nKB := Aside0.mk ((hb.cell (World.block_lt_of_cell? _ _ KB.out)).trans KB.out); have nHB := Aside0.mk (below_then HB.out HB.out.size hb); clear hb HB KA ka KB kb; have HB := nHB; have KA := nKA; have ka := KA.out; have KB := nKB; have kb := KB.out; clear nHB nKA nKB)
    | (go_at_call 8; clear tok8; refine (impl_CountOrders.calls W H od one _ ho).mono ?_; rintro e w5 ⟨rfl, hb⟩; have nKA := Aside0.mk ((hb.cell (World.block_lt_of_cell? _ _ KA.out)).trans KA.out); have nKB := Aside0.mk ((hb.cell (World.block_lt_of_cell? _ _ KB.out)).trans KB.out); have nHB := Aside0.mk (below_then HB.out HB.out.size hb); clear hb HB KA ka KB kb; have HB := nHB; have KA := nKA; have ka := KA.out; have KB := nKB; have kb := KB.out; clear nHB nKA nKB)
    | (go_at_call 9; clear tok9; refine (spec_CountOrders.calls W H od one _ hos).mono ?_; rintro e w6 ⟨rfl, hb⟩; have nKA := Aside0.mk ((hb.cell (World.block_lt_of_cell? _ _ KA.out)).trans KA.out); have nKB := Aside0.mk ((hb.cell (World.block_lt_of_cell? _ _ KB.out)).trans KB.out); have nHB := Aside0.mk (below_then HB.out HB.out.size hb); clear hb HB KA ka KB kb; have HB := nHB; have KA := nKA; have ka := KA.out; have KB := nKB; have kb := KB.out; clear nHB nKA nKB)
    | (go_at_call 10; clear tok10; refine (impl_CheapestToEat.calls W H ch le three _ hch).mono ?_; rintro e w7 ⟨rfl, hb⟩; have nKA := Aside0.mk ((hb.cell (World.block_lt_of_cell? _ _ KA.out)).trans KA.out); have nKB := Aside0.mk ((hb.cell (World.block_lt_of_cell? _ _ KB.out)).trans KB.out); have nHB := Aside0.mk (below_then HB.out HB.out.size hb); clear hb HB KA ka KB kb; have HB := nHB; have KA := nKA; have ka := KA.out; have KB := nKB; have kb := KB.out; clear nHB nKA nKB)
    | (go_at_call 11; clear tok11; refine (spec_CheapestToEat.calls W H ch le three _ hchs).mono ?_; rintro e w8 ⟨rfl, hb⟩; have nKA := Aside0.mk ((hb.cell (World.block_lt_of_cell? _ _ KA.out)).trans KA.out); have nKB := Aside0.mk ((hb.cell (World.block_lt_of_cell? _ _ KB.out)).trans KB.out); have nHB := Aside0.mk (below_then HB.out HB.out.size hb); clear hb HB KA ka KB kb; have HB := nHB; have KA := nKA; have ka := KA.out; have KB := nKB; have kb := KB.out; clear nHB nKA nKB))
  go_cut [175] from 119 to 175 (fun s wx => s = .bool false ∧ Aside0 (Below w8.heap.size w8 wx))
  case first => as_aux_lemma =>
    have HF1 := Aside0.mk f1
    clear f1
    cases ok with
    | true =>
      obtain ⟨f3, hib⟩ := f2 rfl
      have g3 : decide (tr < 1) = false := decide_eq_false (by omega)
      clear f2 f3
      cases one with
      | true =>
        obtain ⟨_, f4⟩ := HF1.out rfl
        have g4 : decide (od < tr) = false := decide_eq_false (by omega)
        clear f4
        go_wp2_with (first | (go_at_call 12; refine (impl_IsBar.calls W H true _ hib).mono ?_; rintro e w9 ⟨rfl, hb⟩; have HB9 := Aside0.mk hb; clear hb))
        go_meet
        case rel => exact ⟨rfl, HB9⟩
      | false =>
        go_wp2_with (first | (go_at_call 12; refine (impl_IsBar.calls W H true _ hib).mono ?_; rintro e w9 ⟨rfl, hb⟩; have HB9 := Aside0.mk hb; clear hb))
        go_meet
        case rel => exact ⟨rfl, HB9⟩
    | false =>
      clear f2
      cases one with
      | true => exact absurd (HF1.out rfl).1 (by simp)
      | false =>
        go_wp2_with fail
        go_meet
        case rel => exact ⟨rfl, ⟨Below.refl _ _⟩⟩
  case rest =>
    obtain ⟨rfl, hB9⟩ := hcut
    have nA := Aside0.mk ((hB9.out.cell (World.block_lt_of_cell? _ _ KA.out)).trans KA.out)
    have nB := Aside0.mk ((hB9.out.cell (World.block_lt_of_cell? _ _ KB.out)).trans KB.out)
    have nH := Aside0.mk (below_then HB.out HB.out.size hB9.out)
    clear KA KB ka kb HB hB9
    have KA := nA
    have KB := nB
    have HB := nH
    have ka := KA.out
    have kb := KB.out
    clear nA nB nH
    go_upto_if 176 with fail
    go_cut [20, 21, 22, 23, 24, 25, 26, 27, 28, 29, 30, 31, 32, 33] from 177 to 268 (fun s20 s21 s22 s23 s24 s25 s26 s27 s28 s29 s30 s31 s32 s33 wx => Aside0 (Below wc.heap.size wc wx))
    case first => as_aux_lemma =>
      clear f1 f2 ho hos hch hchs hd hbig
      cases ok with
      | false =>
        clear ka kb
        go_wp2_with fail
        go_meet
        case rel => exact ⟨Below.refl _ _⟩
      | true =>
        rw [counted_trees] at ht
        have h2 := Option.some.inj ht
        clear ht hts
        by_cases hcnd : okB W H ∧ cnt false W H ≤ 1000000000000000
        · rw [if_pos hcnd] at h2
          obtain ⟨hokb, hcn⟩ := hcnd
          obtain ⟨a, rfl⟩ : ∃ a : Nat, W = (a : Int) := ⟨W.toNat, by have := hokb.1; omega⟩
          obtain ⟨b, rfl⟩ : ∃ b : Nat, H = (b : Int) := ⟨H.toNat, by have := hokb.2; omega⟩
          have ha : 1 ≤ a ∧ a ≤ 12 := by have := hokb.1; omega
          have hb : 1 ≤ b ∧ b ≤ 12 := by have := hokb.2; omega
          obtain ⟨hce, hN⟩ := cnt_nat hcn
          rw [hce] at h2
          obtain rfl : tr = ((N false a b : Nat) : Int) := (Prod.mk.inj h2).1.symm
          clear h2 hce hcn
          have HT := Aside0.mk (turn_eq hokb)
          have HTT := Aside0.mk (trees_turned ha hb hN)
          have HN := Aside0.mk hN
          clear hN hokb
          have toka := True.intro
          have tokb := True.intro
          go_wp2_with (first
            | (go_at_call 13; clear toka; refine (impl_TurnBar.calls a b b a true _ HT.out).mono ?_; rintro e w10 ⟨rfl, hb⟩; have n0 := Aside0.mk ((hb.cell (World.block_lt_of_cell? _ _ KA.out)).trans KA.out); have n1 := Aside0.mk ((hb.cell (World.block_lt_of_cell? _ _ KB.out)).trans KB.out); have HB1 := Aside0.mk hb; clear hb ka kb KA KB)
            | (go_at_call 6; clear tokb; refine (impl_CountTrees.calls b a ((N false a b : Nat) : Int) true _ HTT.out).mono ?_; rintro e w11 ⟨rfl, hb⟩; have KA := Aside0.mk ((hb.cell (World.block_lt_of_cell? _ _ (al_cell _ n0.out))).trans (al_cell _ n0.out)); have KB := Aside0.mk ((hb.cell (World.block_lt_of_cell? _ _ (al_cell _ n1.out))).trans (al_cell _ n1.out)); have HB2 := Aside0.mk (below_then (below_alloc HB1.out _) (below_alloc HB1.out _).size hb); clear hb n0 n1 HB1))
          go_loopg [24, 25] 2 (fun g1 v24 v25 wr => ∃ k nn : Nat, v25 = .int .i64 k ∧ v24 = .int .i64 nn ∧ 2 - k ≤ g1 ∧ ((k = 0 ∧ nn = 0) ∨ (k = 1 ∧ nn = sumT a b true (a - 1)) ∨ (k = 2 ∧ nn = sumT a b true (a - 1) + sumT a b false (b - 1))) ∧ Aside0 (wr.cell? ⟨w2.heap.size, 0, none⟩ = some (.int .i64 a)) ∧ Aside0 (wr.cell? ⟨w2.heap.size, 1, none⟩ = some (.int .i64 b)) ∧ Aside0 (Below wc.heap.size wc wr))
          case atStart => exact ⟨0, 0, rfl, rfl, by omega, .inl ⟨rfl, rfl⟩, KA, KB, HB2⟩
          case round =>
            clear KA KB HB2
            obtain ⟨k, nn, rfl, rfl, hg1, hst, KA, KB, HB2⟩ := hrel
            rcases hst with ⟨rfl, rfl⟩ | ⟨rfl, rfl⟩ | ⟨rfl, rfl⟩
            · as_aux_lemma =>
              go_wp2
              go_loopg [24, 26] 12 (fun g2 v24 v26 wr => ∃ q : Nat, v26 = .int .i64 q ∧ 1 ≤ q ∧ q ≤ 12 ∧ q ≤ a ∧ 12 - q ≤ g2 ∧ v24 = .int .i64 ((sumT a b true (q - 1) : Nat) : Int) ∧ Aside0 (wr.cell? ⟨w2.heap.size, 0, none⟩ = some (.int .i64 a)) ∧ Aside0 (wr.cell? ⟨w2.heap.size, 1, none⟩ = some (.int .i64 b)) ∧ Aside0 (Below wc.heap.size wc wr))
              case atStart => exact ⟨1, rfl, by omega, by omega, by omega, by omega, rfl, KA, KB, HB2⟩
              case round =>
                clear KA KB HB2
                obtain ⟨q, rfl, hq1, hq12, hqa, hg2, rfl, KA, KB, HB2⟩ := hrel
                have tokx := True.intro
                have toky := True.intro
                by_cases h12 : q < 12
                · have ka := KA.out
                  have kb := KB.out
                  have h12d : decide ((q : Int) < 12) = true := decide_eq_true (by omega)
                  have hbr := break_down ha hb hq1
                  by_cases hqlt : q < a
                  · have hqd : decide ((q : Int) < (a : Int)) = true := decide_eq_true (by omega)
                    rw [if_pos hqlt] at hbr
                    have HBR := Aside0.mk hbr
                    obtain ⟨hp1, hp2, hp3⟩ := part_trees ha hb HN.out (c := (true, q)) (mem_cutsN.mpr ⟨hq1, by simpa using hqlt⟩)
                    have hs := sumT_succ a b true (q - 1)
                    rw [show q - 1 + 1 = q by omega] at hs
                    have hle := (sumT_le ha.1 hb.1 q).1 (by omega)
                    have hN := HN.out
                    simp only [PCount.one, PCount.two, if_true, if_false, Bool.false_eq_true, reduceIte] at hp1 hp2 hp3
                    obtain ⟨p, hp⟩ : ∃ p, p = N false q b := ⟨_, rfl⟩
                    obtain ⟨r, hr⟩ : ∃ r, r = N false (a - q) b := ⟨_, rfl⟩
                    rw [← hp] at hp1 hp3
                    rw [← hr] at hp2 hp3
                    clear hp hr
                    have H1 := Aside0.mk hp1
                    have H2 := Aside0.mk hp2
                    have wm : IntKind.i64.wrap ((p : Int) * (r : Int)) = ((term false a b (true, q) : Nat) : Int) := by rw [hp3, IntKind.wrap_i64]; omega
                    have wn : IntKind.i64.wrap (((sumT a b true (q - 1) : Nat) : Int) + ((term false a b (true, q) : Nat) : Int)) = ((sumT a b true q : Nat) : Int) := by rw [hs, IntKind.wrap_i64]; omega
                    have wq : IntKind.i64.wrap ((q : Int) + 1) = ((q + 1 : Nat) : Int) := by rw [IntKind.wrap_i64]; omega
                    have H3 := Aside0.mk wn
                    clear hbr hp1 hp2 hp3 hs hle hN wn
                    go_wp2_with (first
                      | (go_at_call 14; refine (impl_BreakBar.calls a b true q q b ((a - q : Nat) : Int) b true _ HBR.out).mono ?_; rintro e w12 ⟨rfl, hb⟩; have ka1 := bars_old q b ((a - q : Nat) : Int) b (cell_kept ka hb); have kb1 := bars_old q b ((a - q : Nat) : Int) b (cell_kept kb hb); obtain ⟨kc, kd, ke, kf⟩ := bars_new w12 q b ((a - q : Nat) : Int) b; have HB3 := Aside0.mk (bars_below q b ((a - q : Nat) : Int) b (below_then HB2.out HB2.out.size hb) (Nat.le_refl _)); clear hb ka kb KA KB HB2; have ka := ka1; have kb := kb1; clear ka1 kb1; have KA := Aside0.mk ka; have KB := Aside0.mk kb; have KC := Aside0.mk kc; have KD := Aside0.mk kd)
                      | (go_at_call 6; clear tokx; refine (impl_CountTrees.calls q b (p : Int) true _ H1.out).mono ?_; rintro e w13 ⟨rfl, hb⟩; have n0 := Aside0.mk ((hb.cell (World.block_lt_of_cell? _ _ KA.out)).trans KA.out); have n1 := Aside0.mk ((hb.cell (World.block_lt_of_cell? _ _ KB.out)).trans KB.out); have n2 := (hb.cell (World.block_lt_of_cell? _ _ KC.out)).trans KC.out; have n3 := (hb.cell (World.block_lt_of_cell? _ _ KD.out)).trans KD.out; have nH := Aside0.mk (below_then HB3.out HB3.out.size hb); clear hb ka kb kc kd ke kf KA KB KC KD HB3; have KA := n0; have KB := n1; have HB3 := nH; clear n0 n1 nH)
                      | (go_at_call 6; clear toky; refine (impl_CountTrees.calls ((a - q : Nat) : Int) b (r : Int) true _ H2.out).mono ?_; rintro e w14 ⟨rfl, hb⟩; have m0 := Aside0.mk ((hb.cell (World.block_lt_of_cell? _ _ KA.out)).trans KA.out); have m1 := Aside0.mk ((hb.cell (World.block_lt_of_cell? _ _ KB.out)).trans KB.out); have nH := Aside0.mk (below_then HB3.out HB3.out.size hb); clear hb n2 n3 KA KB HB3; have KA := m0; have KB := m1; have HB2 := nH; clear m0 m1 nH; have wn := H3.out))
                    go_roundg (12 - (q + 1))
                    case measure => omega
                    case rel => exact ⟨q + 1, by first | rfl | go_num, by omega, by omega, by omega, by omega, (by rw [show q + 1 - 1 = q by omega]; first | done | rfl | exact congrArg (Value.int IntKind.i64) (Int.natCast_add _ _).symm), KA, KB, HB2⟩
                  · have hqd : decide ((q : Int) < (a : Int)) = false := decide_eq_false (by omega)
                    rw [if_neg hqlt] at hbr
                    have HBR := Aside0.mk (fun W => impl_BreakBar.calls (a : Int) (b : Int) true (q : Int) 0 0 0 0 false W hbr)
                    have EQ := Aside0.mk (show q = a by omega)
                    clear hbr
                    go_wp2_with (first
                      | (go_at_call 14; refine (HBR.out _).mono ?_; rintro e w12 ⟨rfl, hb⟩; have ka1 := bars_old 0 0 0 0 (cell_kept ka hb); have kb1 := bars_old 0 0 0 0 (cell_kept kb hb); have HB3 := Aside0.mk (bars_below 0 0 0 0 (below_then HB2.out HB2.out.size hb) (Nat.le_refl _)); clear hb ka kb KA KB HB2; have ka := ka1; have kb := kb1; clear ka1 kb1; have KA := Aside0.mk ka; have KB := Aside0.mk kb))
                    go_roundg (2 - (0 + 1))
                    case measure => omega
                    case rel => exact ⟨0 + 1, _, by first | rfl | go_num, rfl, by omega, .inr (.inl ⟨rfl, by rw [EQ.out]⟩), KA, KB, HB3⟩
                · have h12d : decide ((q : Int) < 12) = false := decide_eq_false (by omega)
                  have EQ := Aside0.mk (show q = a by omega)
                  go_wp2
                  go_roundg (2 - (0 + 1))
                  case measure => omega
                  case rel => exact ⟨0 + 1, _, by first | rfl | go_num, rfl, by omega, .inr (.inl ⟨rfl, by rw [EQ.out]⟩), KA, KB, HB2⟩
            · as_aux_lemma =>
              go_wp2
              go_loopg [24, 26] 12 (fun g2 v24 v26 wr => ∃ q : Nat, v26 = .int .i64 q ∧ 1 ≤ q ∧ q ≤ 12 ∧ q ≤ b ∧ 12 - q ≤ g2 ∧ v24 = .int .i64 ((sumT a b true (a - 1) + sumT a b false (q - 1) : Nat) : Int) ∧ Aside0 (wr.cell? ⟨w2.heap.size, 0, none⟩ = some (.int .i64 a)) ∧ Aside0 (wr.cell? ⟨w2.heap.size, 1, none⟩ = some (.int .i64 b)) ∧ Aside0 (Below wc.heap.size wc wr))
              case atStart => exact ⟨1, rfl, by omega, by omega, by omega, by omega, rfl, KA, KB, HB2⟩
              case round =>
                clear KA KB HB2
                obtain ⟨q, rfl, hq1, hq12, hqa, hg2, rfl, KA, KB, HB2⟩ := hrel
                have tokx := True.intro
                have toky := True.intro
                by_cases h12 : q < 12
                · have ka := KA.out
                  have kb := KB.out
                  have h12d : decide ((q : Int) < 12) = true := decide_eq_true (by omega)
                  have hbr := break_across ha hb hq1
                  by_cases hqlt : q < b
                  · have hqd : decide ((q : Int) < (b : Int)) = true := decide_eq_true (by omega)
                    rw [if_pos hqlt] at hbr
                    have HBR := Aside0.mk hbr
                    obtain ⟨hp1, hp2, hp3⟩ := part_trees ha hb HN.out (c := (false, q)) (mem_cutsN.mpr ⟨hq1, by simpa using hqlt⟩)
                    have hs := sumT_succ a b false (q - 1)
                    rw [show q - 1 + 1 = q by omega] at hs
                    have hle := (sumT_le ha.1 hb.1 q).2 (by omega)
                    have hN := HN.out
                    simp only [PCount.one, PCount.two, if_true, if_false, Bool.false_eq_true, reduceIte] at hp1 hp2 hp3
                    obtain ⟨p, hp⟩ : ∃ p, p = N false a q := ⟨_, rfl⟩
                    obtain ⟨r, hr⟩ : ∃ r, r = N false a (b - q) := ⟨_, rfl⟩
                    rw [← hp] at hp1 hp3
                    rw [← hr] at hp2 hp3
                    clear hp hr
                    have H1 := Aside0.mk hp1
                    have H2 := Aside0.mk hp2
                    have wm : IntKind.i64.wrap ((p : Int) * (r : Int)) = ((term false a b (false, q) : Nat) : Int) := by rw [hp3, IntKind.wrap_i64]; omega
                    have wn : IntKind.i64.wrap (((sumT a b true (a - 1) : Nat) : Int) + ((sumT a b false (q - 1) : Nat) : Int) + ((term false a b (false, q) : Nat) : Int)) = ((sumT a b true (a - 1) : Nat) : Int) + ((sumT a b false q : Nat) : Int) := by rw [hs, IntKind.wrap_i64]; omega
                    have wq : IntKind.i64.wrap ((q : Int) + 1) = ((q + 1 : Nat) : Int) := by rw [IntKind.wrap_i64]; omega
                    have H3 := Aside0.mk wn
                    clear hbr hp1 hp2 hp3 hs hle hN wn
                    go_wp2_with (first
                      | (go_at_call 14; refine (impl_BreakBar.calls a b false q a q a ((b - q : Nat) : Int) true _ HBR.out).mono ?_; rintro e w12 ⟨rfl, hb⟩; have ka1 := bars_old a q a ((b - q : Nat) : Int) (cell_kept ka hb); have kb1 := bars_old a q a ((b - q : Nat) : Int) (cell_kept kb hb); obtain ⟨kc, kd, ke, kf⟩ := bars_new w12 a q a ((b - q : Nat) : Int); have HB3 := Aside0.mk (bars_below a q a ((b - q : Nat) : Int) (below_then HB2.out HB2.out.size hb) (Nat.le_refl _)); clear hb ka kb KA KB HB2; have ka := ka1; have kb := kb1; clear ka1 kb1; have KA := Aside0.mk ka; have KB := Aside0.mk kb; have KC := Aside0.mk kc; have KD := Aside0.mk kd)
                      | (go_at_call 6; clear tokx; refine (impl_CountTrees.calls a q (p : Int) true _ H1.out).mono ?_; rintro e w13 ⟨rfl, hb⟩; have n0 := Aside0.mk ((hb.cell (World.block_lt_of_cell? _ _ KA.out)).trans KA.out); have n1 := Aside0.mk ((hb.cell (World.block_lt_of_cell? _ _ KB.out)).trans KB.out); have n2 := (hb.cell (World.block_lt_of_cell? _ _ KC.out)).trans KC.out; have n3 := (hb.cell (World.block_lt_of_cell? _ _ KD.out)).trans KD.out; have nH := Aside0.mk (below_then HB3.out HB3.out.size hb); clear hb ka kb kc kd ke kf KA KB KC KD HB3; have KA := n0; have KB := n1; have HB3 := nH; clear n0 n1 nH)
                      | (go_at_call 6; clear toky; refine (impl_CountTrees.calls a ((b - q : Nat) : Int) (r : Int) true _ H2.out).mono ?_; rintro e w14 ⟨rfl, hb⟩; have m0 := Aside0.mk ((hb.cell (World.block_lt_of_cell? _ _ KA.out)).trans KA.out); have m1 := Aside0.mk ((hb.cell (World.block_lt_of_cell? _ _ KB.out)).trans KB.out); have nH := Aside0.mk (below_then HB3.out HB3.out.size hb); clear hb n2 n3 KA KB HB3; have KA := m0; have KB := m1; have HB2 := nH; clear m0 m1 nH; have wn := H3.out))
                    go_roundg (12 - (q + 1))
                    case measure => omega
                    case rel => exact ⟨q + 1, by first | rfl | go_num, by omega, by omega, by omega, by omega, (by rw [show q + 1 - 1 = q by omega]; first | done | rfl | exact congrArg (Value.int IntKind.i64) (Int.natCast_add _ _).symm), KA, KB, HB2⟩
                  · have hqd : decide ((q : Int) < (b : Int)) = false := decide_eq_false (by omega)
                    rw [if_neg hqlt] at hbr
                    have HBR := Aside0.mk (fun W => impl_BreakBar.calls (a : Int) (b : Int) false (q : Int) 0 0 0 0 false W hbr)
                    have EQ := Aside0.mk (show q = b by omega)
                    clear hbr
                    go_wp2_with (first
                      | (go_at_call 14; refine (HBR.out _).mono ?_; rintro e w12 ⟨rfl, hb⟩; have ka1 := bars_old 0 0 0 0 (cell_kept ka hb); have kb1 := bars_old 0 0 0 0 (cell_kept kb hb); have HB3 := Aside0.mk (bars_below 0 0 0 0 (below_then HB2.out HB2.out.size hb) (Nat.le_refl _)); clear hb ka kb KA KB HB2; have ka := ka1; have kb := kb1; clear ka1 kb1; have KA := Aside0.mk ka; have KB := Aside0.mk kb))
                    go_roundg (2 - (1 + 1))
                    case measure => omega
                    case rel => exact ⟨1 + 1, _, by first | rfl | go_num, rfl, by omega, .inr (.inr ⟨rfl, by rw [EQ.out]⟩), KA, KB, HB3⟩
                · have h12d : decide ((q : Int) < 12) = false := decide_eq_false (by omega)
                  have EQ := Aside0.mk (show q = b by omega)
                  go_wp2
                  go_roundg (2 - (1 + 1))
                  case measure => omega
                  case rel => exact ⟨1 + 1, _, by first | rfl | go_num, rfl, by omega, .inr (.inr ⟨rfl, by rw [EQ.out]⟩), KA, KB, HB2⟩
            · as_aux_lemma =>
              have ka := KA.out
              have kb := KB.out
              by_cases hp : a * b = 1
              · have e := sumT_one hp
                have hab := mul_one_both hp
                have hN1 := N_one false hp
                obtain ⟨t, ht⟩ : ∃ t, t = sumT a b true (a - 1) + sumT a b false (b - 1) := ⟨_, rfl⟩
                rw [← ht] at e ⊢
                subst e
                obtain ⟨rfl, rfl⟩ := hab
                clear ht
                go_wp2
                go_meet
                case rel => exact HB2
              · have e := sumT_total ha.1 hb.1 hp
                rw [e]
                go_wp2
                go_meet
                case rel => exact HB2
        · rw [if_neg hcnd] at h2
          exact absurd (Prod.mk.inj h2).2 (by simp)
    case rest =>
      clear f1 f2 ht hts ho hos hd hbig ka kb
      have nKA := Aside0.mk (cell_kept KA.out hcut.out)
      have nKB := Aside0.mk (cell_kept KB.out hcut.out)
      have nHB := Aside0.mk (below_then HB.out HB.out.size hcut.out)
      clear KA KB HB hcut
      have KA := nKA
      have KB := nKB
      have HB := nHB
      clear nHB nKA nKB
      go_upto_if 269 with fail
      go_cut [34, 35] from 270 to 299 (fun s34 s35 wx => Aside0 (Below wc.heap.size wc wx))
      case first => as_aux_lemma =>
        cases three with
        | false =>
          go_wp2_with fail
          go_meet
          case rel => exact ⟨Below.refl _ _⟩
        | true =>
          obtain ⟨a, b, g, rfl, rfl, ha, hb, rfl, g1, g2, e1, hle⟩ := cheap_facts hch
          clear hch hchs
          have ka := KA.out
          have kb := KB.out
          have hm := cast_mul a b
          obtain ⟨n, hn⟩ : ∃ n, n = a * b := ⟨_, rfl⟩
          have hn144 : a * b ≤ 12 * 12 := Nat.mul_le_mul ha.2 hb.2
          rw [← hn] at hm g2 hn144
          have wab : IntKind.i64.wrap ((a : Int) * (b : Int)) = (n : Int) := by rw [hm, IntKind.wrap_i64]; omega
          have d1 : decide ((g : Int) < 1) = false := decide_eq_false (by omega)
          have d2 : decide ((n : Int) ≤ (g : Int)) = false := decide_eq_false (by omega)
          have d3 : decide (le < 1) = false := decide_eq_false (by omega)
          have HL := Aside0.mk (fun W => impl_LeastToEat.calls (a : Int) (b : Int) (g : Int) le true W hle)
          clear hm hn hle hn144
          go_wp2_with (first
            | (go_at_call 15; refine (HL.out _).mono ?_; rintro e w20 ⟨rfl, hb⟩; have HBx := Aside0.mk hb; have ka1 := cell_kept ka hb; have kb1 := cell_kept kb hb; clear ka kb hb))
          go_meet
          case rel => exact HBx
      case rest =>
        clear hch hchs
        have nKA := Aside0.mk (cell_kept KA.out hcut.out)
        have nKB := Aside0.mk (cell_kept KB.out hcut.out)
        have nHB := Aside0.mk (below_then HB.out HB.out.size hcut.out)
        clear KA KB HB hcut
        have KA := nKA
        have KB := nKB
        have HB := nHB
        clear nHB nKA nKB
        clear KA KB
        have tokA := True.intro
        have tokB := True.intro
        have tokC := True.intro
        have tokD := True.intro
        have tokE := True.intro
        have tokF := True.intro
        have tokG := True.intro
        have tokH := True.intro
        have tokI := True.intro
        have tokJ := True.intro
        have tokK := True.intro
        go_upto_region 49 with (first
    | (go_at_call 16; clear tokA; refine (spec_DrawFirstToEat.calls A1 c1 l1 U V q _ (Kd.C_below HR1.out HB.out) hc1 hd2).mono ?_; rintro e w21 ⟨rfl, hb⟩; have nHB := Aside0.mk (below_then HB.out HB.out.size hb); clear HB; have HB := nHB; clear nHB; clear hb; have nH := Aside0.mk (below_alloc HB.out (.cells #[.int .i64 U, .int .i64 V] 25)); clear HB; have HB := nH; clear nH; have KU := Aside0.mk (bar_new0 w21 U V); have KV := Aside0.mk (bar_new1 w21 U V); have ku := KU.out; have kv := KV.out)
    | (go_at_call 17; clear tokB; refine (impl_FirstToEat.calls U V q dn p five _ hfi).mono ?_; rintro e w22 ⟨rfl, hb⟩; have nKU := Aside0.mk ((hb.cell (World.block_lt_of_cell? _ _ KU.out)).trans KU.out); have nKV := Aside0.mk ((hb.cell (World.block_lt_of_cell? _ _ KV.out)).trans KV.out); have nHB := Aside0.mk (below_then HB.out HB.out.size hb); clear hb HB KU ku KV kv; have HB := nHB; have KU := nKU; have ku := KU.out; have KV := nKV; have kv := KV.out; clear nHB nKU nKV)
    | (go_at_call 18; clear tokC; refine (spec_FirstToEat.calls U V q dn p five _ hfis).mono ?_; rintro e w23 ⟨rfl, hb⟩; have nKU := Aside0.mk ((hb.cell (World.block_lt_of_cell? _ _ KU.out)).trans KU.out); have nKV := Aside0.mk ((hb.cell (World.block_lt_of_cell? _ _ KV.out)).trans KV.out); have nHB := Aside0.mk (below_then HB.out HB.out.size hb); clear hb HB KU ku KV kv; have HB := nHB; have KU := nKU; have ku := KU.out; have KV := nKV; have kv := KV.out; clear nHB nKU nKV)
    | (go_at_call 15; clear tokD; refine (impl_LeastToEat.calls U V q cost seven _ hl).mono ?_; rintro e w24 ⟨rfl, hb⟩; have nKU := Aside0.mk ((hb.cell (World.block_lt_of_cell? _ _ KU.out)).trans KU.out); have nKV := Aside0.mk ((hb.cell (World.block_lt_of_cell? _ _ KV.out)).trans KV.out); have nHB := Aside0.mk (below_then HB.out HB.out.size hb); clear hb HB KU ku KV kv; have HB := nHB; have KU := nKU; have ku := KU.out; have KV := nKV; have kv := KV.out; clear nHB nKU nKV)
    | (go_at_call 19; clear tokE; refine (spec_LeastToEat.calls U V q cost seven _ hls).mono ?_; rintro e w25 ⟨rfl, hb⟩; have nKU := Aside0.mk ((hb.cell (World.block_lt_of_cell? _ _ KU.out)).trans KU.out); have nKV := Aside0.mk ((hb.cell (World.block_lt_of_cell? _ _ KV.out)).trans KV.out); have nHB := Aside0.mk (below_then HB.out HB.out.size hb); clear hb HB KU ku KV kv; have HB := nHB; have KU := nKU; have ku := KU.out; have KV := nKV; have kv := KV.out; clear nHB nKU nKV; clear ku kv)
    | (go_at_call 20; clear tokF; refine (spec_DrawLeastByLines.calls kd A1 c1 l1 X Y _ (Kd.C_below HR1.out HB.out) hc1 hdl).mono ?_; rintro e w26 ⟨v0, v1, rfl, hx, hy, hb⟩; obtain ⟨AX, cX, rfl, hcX, hCX⟩ := Kd.R_reads hx; obtain ⟨AY, cY, rfl, hcY, hCY⟩ := Kd.R_reads hy; have HX := Aside0.mk hCX; have HY := Aside0.mk hCY; clear hx hy hCX hCY; have nKU := Aside0.mk (cell_kept KU.out hb); have nKV := Aside0.mk (cell_kept KV.out hb); have nHB := Aside0.mk (below_then HB.out HB.out.size hb); clear KU KV HB; have KU := nKU; have KV := nKV; have HB := nHB; clear nKU nKV nHB; clear hb)
    | (go_at_call 21; clear tokG; refine (impl_LeastByLines.calls AX cX X AY cY Y ln nine _ HX.out hcX HY.out hcY hln).mono ?_; rintro e w27 ⟨rfl, hb⟩; have nKU := Aside0.mk (cell_kept KU.out hb); have nKV := Aside0.mk (cell_kept KV.out hb); have nHX := Aside0.mk (Kd.C_below HX.out hb); have nHY := Aside0.mk (Kd.C_below HY.out hb); have nHB := Aside0.mk (below_then HB.out HB.out.size hb); clear KU KV HX HY HB; have KU := nKU; have KV := nKV; have HX := nHX; have HY := nHY; have HB := nHB; clear nKU nKV nHX nHY nHB; clear hb)
    | (go_at_call 22; clear tokH; refine (spec_LeastByLines.calls kl AX cX X AY cY Y ln nine _ HX.out hcX HY.out hcY hlns).mono ?_; rintro e w28 ⟨rfl, hb⟩; have nKU := Aside0.mk (cell_kept KU.out hb); have nKV := Aside0.mk (cell_kept KV.out hb); have nHX := Aside0.mk (Kd.C_below HX.out hb); have nHY := Aside0.mk (Kd.C_below HY.out hb); have nHB := Aside0.mk (below_then HB.out HB.out.size hb); clear KU KV HX HY HB; have KU := nKU; have KV := nKV; have HX := nHX; have HY := nHY; have HB := nHB; clear nKU nKV nHX nHY nHB; clear hb)
    | (go_at_call 23; clear tokI; refine (impl_OrderByLines.calls AX cX X AY cY Y ro nine _ HX.out hcX HY.out hcY hor).mono ?_; rintro e w29 ⟨vo, rfl, hx, hb⟩; obtain ⟨AO, cO, rfl, hcO, hCO⟩ := Kd.R_reads hx; have HO := Aside0.mk hCO; clear hx hCO; have nKU := Aside0.mk (cell_kept KU.out hb); have nKV := Aside0.mk (cell_kept KV.out hb); have nHX := Aside0.mk (Kd.C_below HX.out hb); have nHY := Aside0.mk (Kd.C_below HY.out hb); have nHB := Aside0.mk (below_then HB.out HB.out.size hb); clear KU KV HX HY HB; have KU := nKU; have KV := nKV; have HX := nHX; have HY := nHY; have HB := nHB; clear nKU nKV nHX nHY nHB; clear hb)
    | (go_at_call 24; clear tokJ; refine (spec_OrderByLines.calls ko AX cX X AY cY Y ro nine _ HX.out hcX HY.out hcY hors).mono ?_; rintro e w30 ⟨vs, rfl, hx, hb⟩; obtain ⟨AS, cS, rfl, hcS, hCS⟩ := Kd.S_reads hx; have HS := Aside0.mk hCS; clear hx hCS; have nKU := Aside0.mk (cell_kept KU.out hb); have nKV := Aside0.mk (cell_kept KV.out hb); have nHX := Aside0.mk (Kd.C_below HX.out hb); have nHY := Aside0.mk (Kd.C_below HY.out hb); have nHO := Aside0.mk (Kd.C_below HO.out hb); have nHB := Aside0.mk (below_then HB.out HB.out.size hb); clear KU KV HX HY HO HB; have KU := nKU; have KV := nKV; have HX := nHX; have HY := nHY; have HO := nHO; have HB := nHB; clear nKU nKV nHX nHY nHO nHB; clear hb))
        go_cut [415] from 360 to 415 (fun s wx => s = .bool false ∧ Aside0 (Below w30.heap.size w30 wx))
        case first => as_aux_lemma =>
          have hF := first_least hfi hl
          clear hfi hfis hl hls hln hlns hor hors hdl hd2
          cases five with
          | true =>
            obtain rfl := hF rfl
            clear hF
            go_wp2_with (first | (go_at_call 25; refine (laws_hRows.calls kh AO cO ro AS cS ro true _ HO.out hcO HS.out hcS hhr).mono ?_; rintro e w31 ⟨rfl, ⟨⟨n31, rfl⟩⟩⟩))
            go_meet
            case rel => exact ⟨rfl, ⟨pw_below_drewN (Below.refl _ _) _⟩⟩
          | false =>
            clear hF
            go_wp2_with (first | (go_at_call 25; refine (laws_hRows.calls kh AO cO ro AS cS ro true _ HO.out hcO HS.out hcS hhr).mono ?_; rintro e w31 ⟨rfl, ⟨⟨n31, rfl⟩⟩⟩))
            go_meet
            case rel => exact ⟨rfl, ⟨pw_below_drewN (Below.refl _ _) _⟩⟩
        case rest =>
          obtain ⟨rfl, hB9⟩ := hcut
          have hb := hB9.out
          clear hB9 HS
          have nKU := Aside0.mk (cell_kept KU.out hb)
          have nKV := Aside0.mk (cell_kept KV.out hb)
          have nHX := Aside0.mk (Kd.C_below HX.out hb)
          have nHY := Aside0.mk (Kd.C_below HY.out hb)
          have nHO := Aside0.mk (Kd.C_below HO.out hb)
          have nHB := Aside0.mk (below_then HB.out HB.out.size hb)
          clear KU KV HX HY HO HB
          have KU := nKU
          have KV := nKV
          have HX := nHX
          have HY := nHY
          have HO := nHO
          have HB := nHB
          clear nKU nKV nHX nHY nHO nHB
          clear hb
          go_upto_if 416 with fail
          go_cut [58, 59, 60, 61, 62, 63] from 417 to 481 (fun s58 s59 s60 s61 s62 s63 wx => Aside0 (Below wc.heap.size wc wx))
          case first => as_aux_lemma =>
            clear hfis hls hln hlns hor hors hdl hd2
            cases seven with
            | false =>
              go_wp2_with fail
              go_meet
              case rel => exact ⟨Below.refl _ _⟩
            | true =>
              obtain ⟨u, v, s, rfl, rfl, rfl, hu, hv, hs, hcost⟩ := eat_facts hl
              obtain ⟨e1, e2, e3, e4, e5, e6, e7⟩ := eat_more hu hv hs
              have hfv := (first_facts hu hv hfi).1
              clear hfi hl
              rw [← hcost] at e1 e2 e4 e5 e6 e7
              clear hcost
              have ku := KU.out
              have kv := KV.out
              have hm := cast_mul u v
              obtain ⟨n, hn⟩ : ∃ n, n = u * v := ⟨_, rfl⟩
              have hn144 : u * v ≤ 12 * 12 := Nat.mul_le_mul hu.2 hv.2
              rw [← hn] at hm hs hn144 hfv e1 e4 e5
              have wuv : IntKind.i64.wrap ((u : Int) * (v : Int)) = (n : Int) := by rw [hm, IntKind.wrap_i64]; omega
              obtain ⟨d, hd⟩ : ∃ d, d = n - s := ⟨_, rfl⟩
              have wns : IntKind.i64.wrap ((n : Int) - (s : Int)) = (d : Int) := by rw [IntKind.wrap_i64]; omega
              rw [← hd] at e1
              have HL1 := Aside0.mk (fun W => impl_LeastToEat.calls (u : Int) (v : Int) (d : Int) cost true W e1)
              have HL2 := Aside0.mk (fun W => impl_LeastToEat.calls (v : Int) (u : Int) (s : Int) cost true W e2)
              have HT := Aside0.mk (fun W => impl_TurnBar.calls (u : Int) (v : Int) (v : Int) (u : Int) true W e3)
              clear e1 e2 e3 hm hn hd
              have tokA := True.intro
              have tokB := True.intro
              have tokC := True.intro
              by_cases hin : 0 < s ∧ s < n
              · rw [decide_eq_true hin] at hfv
                subst hfv
                have c1 := e4 hin
                have d1 : decide (0 < cost) = true := decide_eq_true (by omega)
                have d2 : (cost == 0) = false := by rw [beq_eq_false_iff_ne]; omega
                have d3 : ((s : Int) == 0) = false := by rw [beq_eq_false_iff_ne]; omega
                have d4 : ((s : Int) == (n : Int)) = false := by rw [beq_eq_false_iff_ne]; omega
                have d3' : (s == 0) = false := by rw [beq_eq_false_iff_ne]; omega
                have d4' : (s == n) = false := by rw [beq_eq_false_iff_ne]; omega
                have nz : ¬ s = 0 := by omega
                have nn : ¬ s = n := by omega
                have nc : ¬ cost = 0 := by omega
                clear e4 e5 e6 e7
                as_aux_lemma =>
                  go_wp2_with (first
                    | (go_at_call 15; clear tokA; refine (HL1.out _).mono ?_; rintro e w33 ⟨rfl, hb⟩; have HBx := Aside0.mk hb; have ku1 := cell_kept ku hb; have kv1 := cell_kept kv hb; clear ku kv hb; have ku := ku1; have kv := kv1; clear ku1 kv1)
                    | (go_at_call 13; clear tokB; refine (HT.out _).mono ?_; rintro e w34 ⟨rfl, hb⟩; have HBy := Aside0.mk (below_alloc (below_then HBx.out HBx.out.size hb) (.cells #[.int .i64 v, .int .i64 u] 25)); have ku1 := Aside0.mk (al_cell (.cells #[.int .i64 v, .int .i64 u] 25) (cell_kept ku hb)); have kv1 := Aside0.mk (al_cell (.cells #[.int .i64 v, .int .i64 u] 25) (cell_kept kv hb)); clear ku kv hb HBx)
                    | (go_at_call 15; clear tokC; refine (HL2.out _).mono ?_; rintro e w35 ⟨rfl, hb⟩; have HBz := Aside0.mk (below_then HBy.out HBy.out.size hb); have ku := cell_kept ku1.out hb; have kv := cell_kept kv1.out hb; clear ku1 kv1 hb HBy))
                  go_meet
                  case rel => exact HBz
              · rw [decide_eq_false hin] at hfv
                subst hfv
                have c1 := e5 hin
                clear e4 e5 e6 e7
                subst c1
                by_cases hz : s = 0
                · have d3 : ((s : Int) == 0) = true := by rw [beq_iff_eq]; omega
                  have d3' : (s == 0) = true := by rw [beq_iff_eq]; exact hz
                  clear hin hz
                  as_aux_lemma =>
                    go_wp2_with (first
                      | (go_at_call 15; clear tokA; refine (HL1.out _).mono ?_; rintro e w33 ⟨rfl, hb⟩; have HBx := Aside0.mk hb; have ku1 := cell_kept ku hb; have kv1 := cell_kept kv hb; clear ku kv hb; have ku := ku1; have kv := kv1; clear ku1 kv1)
                      | (go_at_call 13; clear tokB; refine (HT.out _).mono ?_; rintro e w34 ⟨rfl, hb⟩; have HBy := Aside0.mk (below_alloc (below_then HBx.out HBx.out.size hb) (.cells #[.int .i64 v, .int .i64 u] 25)); have ku1 := Aside0.mk (al_cell (.cells #[.int .i64 v, .int .i64 u] 25) (cell_kept ku hb)); have kv1 := Aside0.mk (al_cell (.cells #[.int .i64 v, .int .i64 u] 25) (cell_kept kv hb)); clear ku kv hb HBx)
                      | (go_at_call 15; clear tokC; refine (HL2.out _).mono ?_; rintro e w35 ⟨rfl, hb⟩; have HBz := Aside0.mk (below_then HBy.out HBy.out.size hb); have ku := cell_kept ku1.out hb; have kv := cell_kept kv1.out hb; clear ku1 kv1 hb HBy))
                    go_meet
                    case rel => exact HBz
                · have hz2 := Aside0.mk (show s = n by omega)
                  have d3 : ((s : Int) == 0) = false := by rw [beq_eq_false_iff_ne]; omega
                  have d3' : (s == 0) = false := by rw [beq_eq_false_iff_ne]; omega
                  have d4 : ((s : Int) == (n : Int)) = true := by rw [beq_iff_eq]; have := hz2.out; omega
                  have d4' : (s == n) = true := by rw [beq_iff_eq]; exact hz2.out
                  clear hin
                  as_aux_lemma =>
                    go_wp2_with (first
                      | (go_at_call 15; clear tokA; refine (HL1.out _).mono ?_; rintro e w33 ⟨rfl, hb⟩; have HBx := Aside0.mk hb; have ku1 := cell_kept ku hb; have kv1 := cell_kept kv hb; clear ku kv hb; have ku := ku1; have kv := kv1; clear ku1 kv1)
                      | (go_at_call 13; clear tokB; refine (HT.out _).mono ?_; rintro e w34 ⟨rfl, hb⟩; have HBy := Aside0.mk (below_alloc (below_then HBx.out HBx.out.size hb) (.cells #[.int .i64 v, .int .i64 u] 25)); have ku1 := Aside0.mk (al_cell (.cells #[.int .i64 v, .int .i64 u] 25) (cell_kept ku hb)); have kv1 := Aside0.mk (al_cell (.cells #[.int .i64 v, .int .i64 u] 25) (cell_kept kv hb)); clear ku kv hb HBx)
                      | (go_at_call 15; clear tokC; refine (HL2.out _).mono ?_; rintro e w35 ⟨rfl, hb⟩; have HBz := Aside0.mk (below_then HBy.out HBy.out.size hb); have ku := cell_kept ku1.out hb; have kv := cell_kept kv1.out hb; clear ku1 kv1 hb HBy))
                    go_meet
                    case rel => exact HBz
          case rest =>
            have hb := hcut.out
            clear hcut
            have nKU := Aside0.mk (cell_kept KU.out hb)
            have nKV := Aside0.mk (cell_kept KV.out hb)
            have nHX := Aside0.mk (Kd.C_below HX.out hb)
            have nHY := Aside0.mk (Kd.C_below HY.out hb)
            have nHO := Aside0.mk (Kd.C_below HO.out hb)
            have nHB := Aside0.mk (below_then HB.out HB.out.size hb)
            clear KU KV HX HY HO HB
            have KU := nKU
            have KV := nKV
            have HX := nHX
            have HY := nHY
            have HO := nHO
            have HB := nHB
            clear nKU nKV nHX nHY nHO nHB
            clear hb
            go_upto_if 482 with fail
            go_cut [64, 65, 66, 67, 68, 69, 70, 71, 72, 73] from 483 to 547 (fun s64 s65 s66 s67 s68 s69 s70 s71 s72 s73 wx => Aside0 (Below wc.heap.size wc wx))
            case first => as_aux_lemma =>
              clear hfis hls hln hlns hor hors hdl hd2
              cases five with
              | false =>
                go_wp2_with fail
                go_meet
                case rel => exact ⟨Below.refl _ _⟩
              | true =>
                have h7 := first_least hfi hl rfl
                subst h7
                obtain ⟨u, v, s, rfl, rfl, rfl, hu, hv, hs, hcost⟩ := eat_facts hl
                have hff := (first_facts hu hv hfi).2 rfl
                obtain ⟨hmem, hp, hse⟩ := hff
                obtain ⟨m, hm⟩ : ∃ m, m = p.toNat := ⟨_, rfl⟩
                rw [← hm] at hmem hp hse
                clear hfi hl hm
                subst hp
                have hmc := mem_cutsN.mp hmem
                have HFULL := Aside0.mk (fun best h => splits_full (best := best) hu hv hs hmem hse h)
                have HCO := Aside0.mk hcost
                have hs144 : s ≤ 12 * 12 := Nat.le_trans hs (Nat.mul_le_mul hu.2 hv.2)
                have hpi := price_in dn hu hv
                clear hmem hse hcost hs
                have ku := KU.out
                have kv := KV.out
                have toka := True.intro
                cases dn with
                | false =>
                  as_aux_lemma =>
                  have hlt : m < v := by simpa using hmc.2
                  have hbr := break_across (m := m) hu hv hmc.1
                  rw [if_pos hlt] at hbr
                  obtain ⟨x1, hx1⟩ : ∃ z : Nat, z = u := ⟨_, rfl⟩
                  obtain ⟨x2, hx2⟩ : ∃ z : Nat, z = m := ⟨_, rfl⟩
                  obtain ⟨y1, hy1⟩ : ∃ z : Nat, z = u := ⟨_, rfl⟩
                  obtain ⟨y2, hy2⟩ : ∃ z : Nat, z = v - m := ⟨_, rfl⟩
                  have q1 : sq (PCount.one u v (false, m)) = x1 * x2 := by rw [hx1, hx2]; rfl
                  have q2 : sq (PCount.two u v (false, m)) = y1 * y2 := by rw [hy1, hy2]; rfl
                  have q3 : ∀ k, E (PCount.one u v (false, m)).1 (PCount.one u v (false, m)).2 k = E x1 x2 k := fun k => by rw [hx1, hx2]; rfl
                  have q4 : ∀ k, E (PCount.two u v (false, m)).1 (PCount.two u v (false, m)).2 k = E y1 y2 k := fun k => by rw [hy1, hy2]; rfl
                  have bx1 : 1 ≤ x1 ∧ x1 ≤ 12 := by omega
                  have bx2 : 1 ≤ x2 ∧ x2 ≤ 12 := by omega
                  have by1 : 1 ≤ y1 ∧ y1 ≤ 12 := by omega
                  have by2 : 1 ≤ y2 ∧ y2 ≤ 12 := by omega
                  have hbr2 : impl_BreakBar.f u v false m = some ((x1 : Int), (x2 : Int), (y1 : Int), (y2 : Int), true) := by rw [hbr, hx1, hx2, hy1, hy2]
                  obtain ⟨pr, hpr⟩ : ∃ z : Int, z = price u v false := ⟨_, rfl⟩
                  rw [← hpr] at hpi
                  have wpp : IntKind.i64.wrap ((u : Int) * (u : Int)) = pr := by rw [hpr, cast_mul, IntKind.wrap_i64]; unfold price; simp only [if_true, if_false, Bool.false_eq_true, reduceIte]; have : u * u ≤ 12 * 12 := Nat.mul_le_mul (by omega) (by omega); omega
                  obtain ⟨po, hpo⟩ : ∃ z : Int, z = IntKind.i64.wrap ((v : Int) * (v : Int)) := ⟨_, rfl⟩
                  have wpo : IntKind.i64.wrap ((v : Int) * (v : Int)) = po := hpo.symm
                  have HBR := Aside0.mk (fun W => impl_BreakBar.calls (u : Int) (v : Int) false (m : Int) (x1 : Int) (x2 : Int) (y1 : Int) (y2 : Int) true W hbr2)
                  have Q1 := Aside0.mk q1
                  have Q2 := Aside0.mk q2
                  have Q3 := Aside0.mk q3
                  have Q4 := Aside0.mk q4
                  have HPR := Aside0.mk hpr
                  clear hbr hbr2 hx1 hx2 hy1 hy2 q1 q2 q3 q4 hpr hpo hmc
                  have z0 : LeastO (SplitsTo u v s (false, m) 0) (-1) := splits_zero u v s (false, m)
                  have Z0 := Aside0.mk z0
                  clear z0
                  go_wp2_with (first
                    | (go_at_call 14; clear toka; refine (HBR.out _).mono ?_; rintro e w40 ⟨rfl, hb⟩; have ku1 := bars_old x1 x2 y1 y2 (cell_kept ku hb); have kv1 := bars_old x1 x2 y1 y2 (cell_kept kv hb); obtain ⟨k3, k4, k1, k2⟩ := bars_new w40 x1 x2 y1 y2; have HL := Aside0.mk (bars_below x1 x2 y1 y2 hb (Nat.le_refl _)); clear hb ku kv; have ku := ku1; have kv := kv1; clear ku1 kv1))
                  have K1 := Aside0.mk k1
                  have K2 := Aside0.mk k2
                  have K3 := Aside0.mk k3
                  have K4 := Aside0.mk k4
                  clear ku kv k1 k2 k3 k4 wpp wpo
                  go_loopg [68, 69] (s + 1) (fun g1 v68 v69 wr => ∃ (K : Nat) (best : Int), v69 = .int .i64 K ∧ v68 = .int .i64 best ∧ K ≤ s + 1 ∧ s + 1 - K ≤ g1 ∧ Aside0 (LeastO (SplitsTo u v s (false, m) K) best) ∧ Aside0 (wr.cell? ⟨w40.heap.size, 0, none⟩ = some (.int .i64 x1)) ∧ Aside0 (wr.cell? ⟨w40.heap.size, 1, none⟩ = some (.int .i64 x2)) ∧ Aside0 (wr.cell? ⟨w40.heap.size + 1, 0, none⟩ = some (.int .i64 y1)) ∧ Aside0 (wr.cell? ⟨w40.heap.size + 1, 1, none⟩ = some (.int .i64 y2)) ∧ Aside0 (Below wc.heap.size wc wr))
                  case atStart => exact ⟨0, -1, rfl, rfl, by omega, by omega, Z0, K1, K2, K3, K4, HL⟩
                  case round =>
                    clear K1 K2 K3 K4 HL Z0
                    obtain ⟨K, best, rfl, rfl, hK1, hg1, HM, K1, K2, K3, K4, HL⟩ := hrel
                    by_cases hK : K ≤ s
                    · have hKz : (K : Int) ≤ (s : Int) := by omega
                      have k1 := K1.out
                      have k2 := K2.out
                      have k3 := K3.out
                      have k4 := K4.out
                      clear K1 K2 K3 K4
                      have ei := E_bound K bx1 bx2
                      obtain ⟨d, hd⟩ : ∃ d, d = s - K := ⟨_, rfl⟩
                      have ej := E_bound d by1 by2
                      have wsk : IntKind.i64.wrap ((s : Int) - (K : Int)) = (d : Int) := by rw [IntKind.wrap_i64]; omega
                      obtain ⟨i, hi⟩ : ∃ i, i = E x1 x2 K := ⟨_, rfl⟩
                      obtain ⟨j, hj⟩ : ∃ j, j = E y1 y2 d := ⟨_, rfl⟩
                      rw [← hi] at ei
                      rw [← hj] at ej
                      have tokA := True.intro
                      have tokB := True.intro
                      by_cases hA : K ≤ x1 * x2
                      · have h1 := least_eq bx1 bx2 hA
                        rw [← hi] at h1
                        have H1 := Aside0.mk (fun W => impl_LeastToEat.calls (x1 : Int) (x2 : Int) (K : Int) i true W h1)
                        by_cases hBq : d ≤ y1 * y2
                        · have h2 := least_eq by1 by2 hBq
                          rw [← hj] at h2
                          have H2 := Aside0.mk (fun W => impl_LeastToEat.calls (y1 : Int) (y2 : Int) (d : Int) j true W h2)
                          have wa : IntKind.i64.wrap (pr + i) = pr + i := by rw [IntKind.wrap_i64]; omega
                          obtain ⟨own, hown⟩ : ∃ z : Int, z = pr + i + j := ⟨_, rfl⟩
                          have wb : IntKind.i64.wrap (pr + i + j) = own := by rw [hown, IntKind.wrap_i64]; omega
                          have hst := splits_some HM.out ⟨hK, by rw [Q1.out]; exact hA, by rw [Q2.out, ← hd]; exact hBq⟩ (by rw [Q3.out, Q4.out, ← hd, ← hi, ← hj]; have := HPR.out; simp only at this ⊢; omega)
                          rw [Q3.out, Q4.out, ← hd, ← hi, ← hj, show price u v (false, m).1 = pr from HPR.out.symm, ← hown] at hst
                          clear h1 h2 hi hj hd hown HM
                          by_cases hbn : best < 0
                          · rw [show less best own = own by unfold less; rw [if_pos (by omega : best < 0)]] at hst
                            have HM := Aside0.mk hst
                            have db : decide (best < 0) = true := decide_eq_true (by omega)
                            clear hst
                            go_wp2_with (first
                              | (go_at_call 15; clear tokA; refine (H1.out _).mono ?_; rintro e w41 ⟨rfl, hb⟩; have n1 := cell_kept k1 hb; have n2 := cell_kept k2 hb; have n3 := cell_kept k3 hb; have n4 := cell_kept k4 hb; have nH := Aside0.mk (below_then HL.out HL.out.size hb); clear hb k1 k2 k3 k4 HL; have k1 := n1; have k2 := n2; have k3 := n3; have k4 := n4; have HL := nH; clear n1 n2 n3 n4 nH)
                              | (go_at_call 15; clear tokB; refine (H2.out _).mono ?_; rintro e w42 ⟨rfl, hb⟩; have n1 := cell_kept k1 hb; have n2 := cell_kept k2 hb; have n3 := cell_kept k3 hb; have n4 := cell_kept k4 hb; have nH := Aside0.mk (below_then HL.out HL.out.size hb); clear hb k1 k2 k3 k4 HL; have k1 := n1; have k2 := n2; have k3 := n3; have k4 := n4; have HL := nH; clear n1 n2 n3 n4 nH))
                            go_roundg (s + 1 - (K + 1))
                            case measure => omega
                            case rel => exact ⟨K + 1, own, by first | rfl | go_num, rfl, by omega, by omega, HM, ⟨k1⟩, ⟨k2⟩, ⟨k3⟩, ⟨k4⟩, HL⟩
                          · by_cases hbo : own < best
                            · rw [show less best own = own by unfold less; rw [if_neg (by omega : ¬ best < 0), if_pos (by omega : own < best)]] at hst
                              have HM := Aside0.mk hst
                              have db : decide (best < 0) = false := decide_eq_false (by omega)
                              have dc : decide (own < best) = true := decide_eq_true (by omega)
                              clear hst
                              go_wp2_with (first
                                | (go_at_call 15; clear tokA; refine (H1.out _).mono ?_; rintro e w41 ⟨rfl, hb⟩; have n1 := cell_kept k1 hb; have n2 := cell_kept k2 hb; have n3 := cell_kept k3 hb; have n4 := cell_kept k4 hb; have nH := Aside0.mk (below_then HL.out HL.out.size hb); clear hb k1 k2 k3 k4 HL; have k1 := n1; have k2 := n2; have k3 := n3; have k4 := n4; have HL := nH; clear n1 n2 n3 n4 nH)
                                | (go_at_call 15; clear tokB; refine (H2.out _).mono ?_; rintro e w42 ⟨rfl, hb⟩; have n1 := cell_kept k1 hb; have n2 := cell_kept k2 hb; have n3 := cell_kept k3 hb; have n4 := cell_kept k4 hb; have nH := Aside0.mk (below_then HL.out HL.out.size hb); clear hb k1 k2 k3 k4 HL; have k1 := n1; have k2 := n2; have k3 := n3; have k4 := n4; have HL := nH; clear n1 n2 n3 n4 nH))
                              go_roundg (s + 1 - (K + 1))
                              case measure => omega
                              case rel => exact ⟨K + 1, own, by first | rfl | go_num, rfl, by omega, by omega, HM, ⟨k1⟩, ⟨k2⟩, ⟨k3⟩, ⟨k4⟩, HL⟩
                            · rw [show less best own = best by unfold less; rw [if_neg (by omega : ¬ best < 0), if_neg (by omega : ¬ own < best)]] at hst
                              have HM := Aside0.mk hst
                              have db : decide (best < 0) = false := decide_eq_false (by omega)
                              have dc : decide (own < best) = false := decide_eq_false (by omega)
                              clear hst
                              go_wp2_with (first
                                | (go_at_call 15; clear tokA; refine (H1.out _).mono ?_; rintro e w41 ⟨rfl, hb⟩; have n1 := cell_kept k1 hb; have n2 := cell_kept k2 hb; have n3 := cell_kept k3 hb; have n4 := cell_kept k4 hb; have nH := Aside0.mk (below_then HL.out HL.out.size hb); clear hb k1 k2 k3 k4 HL; have k1 := n1; have k2 := n2; have k3 := n3; have k4 := n4; have HL := nH; clear n1 n2 n3 n4 nH)
                                | (go_at_call 15; clear tokB; refine (H2.out _).mono ?_; rintro e w42 ⟨rfl, hb⟩; have n1 := cell_kept k1 hb; have n2 := cell_kept k2 hb; have n3 := cell_kept k3 hb; have n4 := cell_kept k4 hb; have nH := Aside0.mk (below_then HL.out HL.out.size hb); clear hb k1 k2 k3 k4 HL; have k1 := n1; have k2 := n2; have k3 := n3; have k4 := n4; have HL := nH; clear n1 n2 n3 n4 nH))
                              go_roundg (s + 1 - (K + 1))
                              case measure => omega
                              case rel => exact ⟨K + 1, best, by first | rfl | go_num, rfl, by omega, by omega, HM, ⟨k1⟩, ⟨k2⟩, ⟨k3⟩, ⟨k4⟩, HL⟩
                        · have h2 := least_not_eq (W := (y1 : Int)) (H := (y2 : Int)) (q := (d : Int)) (fun h => hBq (by have := h.2.2; rw [cast_mul] at this; omega))
                          have H2 := Aside0.mk (fun W => impl_LeastToEat.calls (y1 : Int) (y2 : Int) (d : Int) 0 false W h2)
                          have hst := splits_none HM.out (fun h => hBq (by have := h.2.2; rw [Q2.out, ← hd] at this; exact this))
                          clear h1 h2 hi hj hd HM
                          have HM := Aside0.mk hst
                          clear hst
                          go_wp2_with (first
                            | (go_at_call 15; clear tokA; refine (H1.out _).mono ?_; rintro e w41 ⟨rfl, hb⟩; have n1 := cell_kept k1 hb; have n2 := cell_kept k2 hb; have n3 := cell_kept k3 hb; have n4 := cell_kept k4 hb; have nH := Aside0.mk (below_then HL.out HL.out.size hb); clear hb k1 k2 k3 k4 HL; have k1 := n1; have k2 := n2; have k3 := n3; have k4 := n4; have HL := nH; clear n1 n2 n3 n4 nH)
                            | (go_at_call 15; clear tokB; refine (H2.out _).mono ?_; rintro e w42 ⟨rfl, hb⟩; have n1 := cell_kept k1 hb; have n2 := cell_kept k2 hb; have n3 := cell_kept k3 hb; have n4 := cell_kept k4 hb; have nH := Aside0.mk (below_then HL.out HL.out.size hb); clear hb k1 k2 k3 k4 HL; have k1 := n1; have k2 := n2; have k3 := n3; have k4 := n4; have HL := nH; clear n1 n2 n3 n4 nH))
                          go_roundg (s + 1 - (K + 1))
                          case measure => omega
                          case rel => exact ⟨K + 1, best, by first | rfl | go_num, rfl, by omega, by omega, HM, ⟨k1⟩, ⟨k2⟩, ⟨k3⟩, ⟨k4⟩, HL⟩
                      · have h1 := least_not_eq (W := (x1 : Int)) (H := (x2 : Int)) (q := (K : Int)) (fun h => hA (by have := h.2.2; rw [cast_mul] at this; omega))
                        have H1 := Aside0.mk (fun W => impl_LeastToEat.calls (x1 : Int) (x2 : Int) (K : Int) 0 false W h1)
                        obtain ⟨j2, b2, h2⟩ : ∃ j2 b2, impl_LeastToEat.f (y1 : Int) (y2 : Int) (d : Int) = some (j2, b2) := ⟨_, _, rfl⟩
                        have H2 := Aside0.mk (fun W => impl_LeastToEat.calls (y1 : Int) (y2 : Int) (d : Int) j2 b2 W h2)
                        have hst := splits_none HM.out (fun h => hA (by have := h.2.1; rw [Q1.out] at this; exact this))
                        clear h1 h2 hi hj hd HM
                        have HM := Aside0.mk hst
                        clear hst
                        go_wp2_with (first
                          | (go_at_call 15; clear tokA; refine (H1.out _).mono ?_; rintro e w41 ⟨rfl, hb⟩; have n1 := cell_kept k1 hb; have n2 := cell_kept k2 hb; have n3 := cell_kept k3 hb; have n4 := cell_kept k4 hb; have nH := Aside0.mk (below_then HL.out HL.out.size hb); clear hb k1 k2 k3 k4 HL; have k1 := n1; have k2 := n2; have k3 := n3; have k4 := n4; have HL := nH; clear n1 n2 n3 n4 nH)
                          | (go_at_call 15; clear tokB; refine (H2.out _).mono ?_; rintro e w42 ⟨rfl, hb⟩; have n1 := cell_kept k1 hb; have n2 := cell_kept k2 hb; have n3 := cell_kept k3 hb; have n4 := cell_kept k4 hb; have nH := Aside0.mk (below_then HL.out HL.out.size hb); clear hb k1 k2 k3 k4 HL; have k1 := n1; have k2 := n2; have k3 := n3; have k4 := n4; have HL := nH; clear n1 n2 n3 n4 nH))
                        go_roundg (s + 1 - (K + 1))
                        case measure => omega
                        case rel => exact ⟨K + 1, best, by first | rfl | go_num, rfl, by omega, by omega, HM, ⟨k1⟩, ⟨k2⟩, ⟨k3⟩, ⟨k4⟩, HL⟩
                    · have hKz : ¬ (K : Int) ≤ (s : Int) := by omega
                      have eK : K = s + 1 := by omega
                      have hb := HM.out
                      rw [eK] at hb
                      have hbc := HFULL.out best hb
                      rw [← HCO.out] at hbc
                      clear hb HM
                      have eK' := Aside0.mk eK
                      clear eK
                      subst hbc
                      go_wp2_with fail
                      go_meet
                      case rel => exact HL
                | true =>
                  as_aux_lemma =>
                  have hlt : m < u := by simpa using hmc.2
                  have hbr := break_down (m := m) hu hv hmc.1
                  rw [if_pos hlt] at hbr
                  obtain ⟨x1, hx1⟩ : ∃ z : Nat, z = m := ⟨_, rfl⟩
                  obtain ⟨x2, hx2⟩ : ∃ z : Nat, z = v := ⟨_, rfl⟩
                  obtain ⟨y1, hy1⟩ : ∃ z : Nat, z = u - m := ⟨_, rfl⟩
                  obtain ⟨y2, hy2⟩ : ∃ z : Nat, z = v := ⟨_, rfl⟩
                  have q1 : sq (PCount.one u v (true, m)) = x1 * x2 := by rw [hx1, hx2]; rfl
                  have q2 : sq (PCount.two u v (true, m)) = y1 * y2 := by rw [hy1, hy2]; rfl
                  have q3 : ∀ k, E (PCount.one u v (true, m)).1 (PCount.one u v (true, m)).2 k = E x1 x2 k := fun k => by rw [hx1, hx2]; rfl
                  have q4 : ∀ k, E (PCount.two u v (true, m)).1 (PCount.two u v (true, m)).2 k = E y1 y2 k := fun k => by rw [hy1, hy2]; rfl
                  have bx1 : 1 ≤ x1 ∧ x1 ≤ 12 := by omega
                  have bx2 : 1 ≤ x2 ∧ x2 ≤ 12 := by omega
                  have by1 : 1 ≤ y1 ∧ y1 ≤ 12 := by omega
                  have by2 : 1 ≤ y2 ∧ y2 ≤ 12 := by omega
                  have hbr2 : impl_BreakBar.f u v true m = some ((x1 : Int), (x2 : Int), (y1 : Int), (y2 : Int), true) := by rw [hbr, hx1, hx2, hy1, hy2]
                  obtain ⟨pr, hpr⟩ : ∃ z : Int, z = price u v true := ⟨_, rfl⟩
                  rw [← hpr] at hpi
                  have wpp : IntKind.i64.wrap ((v : Int) * (v : Int)) = pr := by rw [hpr, cast_mul, IntKind.wrap_i64]; unfold price; simp only [if_true, if_false, Bool.false_eq_true, reduceIte]; have : v * v ≤ 12 * 12 := Nat.mul_le_mul (by omega) (by omega); omega
                  obtain ⟨po, hpo⟩ : ∃ z : Int, z = IntKind.i64.wrap ((u : Int) * (u : Int)) := ⟨_, rfl⟩
                  have wpo : IntKind.i64.wrap ((u : Int) * (u : Int)) = po := hpo.symm
                  have HBR := Aside0.mk (fun W => impl_BreakBar.calls (u : Int) (v : Int) true (m : Int) (x1 : Int) (x2 : Int) (y1 : Int) (y2 : Int) true W hbr2)
                  have Q1 := Aside0.mk q1
                  have Q2 := Aside0.mk q2
                  have Q3 := Aside0.mk q3
                  have Q4 := Aside0.mk q4
                  have HPR := Aside0.mk hpr
                  clear hbr hbr2 hx1 hx2 hy1 hy2 q1 q2 q3 q4 hpr hpo hmc
                  have z0 : LeastO (SplitsTo u v s (true, m) 0) (-1) := splits_zero u v s (true, m)
                  have Z0 := Aside0.mk z0
                  clear z0
                  go_wp2_with (first
                    | (go_at_call 14; clear toka; refine (HBR.out _).mono ?_; rintro e w40 ⟨rfl, hb⟩; have ku1 := bars_old x1 x2 y1 y2 (cell_kept ku hb); have kv1 := bars_old x1 x2 y1 y2 (cell_kept kv hb); obtain ⟨k3, k4, k1, k2⟩ := bars_new w40 x1 x2 y1 y2; have HL := Aside0.mk (bars_below x1 x2 y1 y2 hb (Nat.le_refl _)); clear hb ku kv; have ku := ku1; have kv := kv1; clear ku1 kv1))
                  have K1 := Aside0.mk k1
                  have K2 := Aside0.mk k2
                  have K3 := Aside0.mk k3
                  have K4 := Aside0.mk k4
                  clear ku kv k1 k2 k3 k4 wpp wpo
                  go_loopg [68, 69] (s + 1) (fun g1 v68 v69 wr => ∃ (K : Nat) (best : Int), v69 = .int .i64 K ∧ v68 = .int .i64 best ∧ K ≤ s + 1 ∧ s + 1 - K ≤ g1 ∧ Aside0 (LeastO (SplitsTo u v s (true, m) K) best) ∧ Aside0 (wr.cell? ⟨w40.heap.size, 0, none⟩ = some (.int .i64 x1)) ∧ Aside0 (wr.cell? ⟨w40.heap.size, 1, none⟩ = some (.int .i64 x2)) ∧ Aside0 (wr.cell? ⟨w40.heap.size + 1, 0, none⟩ = some (.int .i64 y1)) ∧ Aside0 (wr.cell? ⟨w40.heap.size + 1, 1, none⟩ = some (.int .i64 y2)) ∧ Aside0 (Below wc.heap.size wc wr))
                  case atStart => exact ⟨0, -1, rfl, rfl, by omega, by omega, Z0, K1, K2, K3, K4, HL⟩
                  case round =>
                    clear K1 K2 K3 K4 HL Z0
                    obtain ⟨K, best, rfl, rfl, hK1, hg1, HM, K1, K2, K3, K4, HL⟩ := hrel
                    by_cases hK : K ≤ s
                    · have hKz : (K : Int) ≤ (s : Int) := by omega
                      have k1 := K1.out
                      have k2 := K2.out
                      have k3 := K3.out
                      have k4 := K4.out
                      clear K1 K2 K3 K4
                      have ei := E_bound K bx1 bx2
                      obtain ⟨d, hd⟩ : ∃ d, d = s - K := ⟨_, rfl⟩
                      have ej := E_bound d by1 by2
                      have wsk : IntKind.i64.wrap ((s : Int) - (K : Int)) = (d : Int) := by rw [IntKind.wrap_i64]; omega
                      obtain ⟨i, hi⟩ : ∃ i, i = E x1 x2 K := ⟨_, rfl⟩
                      obtain ⟨j, hj⟩ : ∃ j, j = E y1 y2 d := ⟨_, rfl⟩
                      rw [← hi] at ei
                      rw [← hj] at ej
                      have tokA := True.intro
                      have tokB := True.intro
                      by_cases hA : K ≤ x1 * x2
                      · have h1 := least_eq bx1 bx2 hA
                        rw [← hi] at h1
                        have H1 := Aside0.mk (fun W => impl_LeastToEat.calls (x1 : Int) (x2 : Int) (K : Int) i true W h1)
                        by_cases hBq : d ≤ y1 * y2
                        · have h2 := least_eq by1 by2 hBq
                          rw [← hj] at h2
                          have H2 := Aside0.mk (fun W => impl_LeastToEat.calls (y1 : Int) (y2 : Int) (d : Int) j true W h2)
                          have wa : IntKind.i64.wrap (pr + i) = pr + i := by rw [IntKind.wrap_i64]; omega
                          obtain ⟨own, hown⟩ : ∃ z : Int, z = pr + i + j := ⟨_, rfl⟩
                          have wb : IntKind.i64.wrap (pr + i + j) = own := by rw [hown, IntKind.wrap_i64]; omega
                          have hst := splits_some HM.out ⟨hK, by rw [Q1.out]; exact hA, by rw [Q2.out, ← hd]; exact hBq⟩ (by rw [Q3.out, Q4.out, ← hd, ← hi, ← hj]; have := HPR.out; simp only at this ⊢; omega)
                          rw [Q3.out, Q4.out, ← hd, ← hi, ← hj, show price u v (true, m).1 = pr from HPR.out.symm, ← hown] at hst
                          clear h1 h2 hi hj hd hown HM
                          by_cases hbn : best < 0
                          · rw [show less best own = own by unfold less; rw [if_pos (by omega : best < 0)]] at hst
                            have HM := Aside0.mk hst
                            have db : decide (best < 0) = true := decide_eq_true (by omega)
                            clear hst
                            go_wp2_with (first
                              | (go_at_call 15; clear tokA; refine (H1.out _).mono ?_; rintro e w41 ⟨rfl, hb⟩; have n1 := cell_kept k1 hb; have n2 := cell_kept k2 hb; have n3 := cell_kept k3 hb; have n4 := cell_kept k4 hb; have nH := Aside0.mk (below_then HL.out HL.out.size hb); clear hb k1 k2 k3 k4 HL; have k1 := n1; have k2 := n2; have k3 := n3; have k4 := n4; have HL := nH; clear n1 n2 n3 n4 nH)
                              | (go_at_call 15; clear tokB; refine (H2.out _).mono ?_; rintro e w42 ⟨rfl, hb⟩; have n1 := cell_kept k1 hb; have n2 := cell_kept k2 hb; have n3 := cell_kept k3 hb; have n4 := cell_kept k4 hb; have nH := Aside0.mk (below_then HL.out HL.out.size hb); clear hb k1 k2 k3 k4 HL; have k1 := n1; have k2 := n2; have k3 := n3; have k4 := n4; have HL := nH; clear n1 n2 n3 n4 nH))
                            go_roundg (s + 1 - (K + 1))
                            case measure => omega
                            case rel => exact ⟨K + 1, own, by first | rfl | go_num, rfl, by omega, by omega, HM, ⟨k1⟩, ⟨k2⟩, ⟨k3⟩, ⟨k4⟩, HL⟩
                          · by_cases hbo : own < best
                            · rw [show less best own = own by unfold less; rw [if_neg (by omega : ¬ best < 0), if_pos (by omega : own < best)]] at hst
                              have HM := Aside0.mk hst
                              have db : decide (best < 0) = false := decide_eq_false (by omega)
                              have dc : decide (own < best) = true := decide_eq_true (by omega)
                              clear hst
                              go_wp2_with (first
                                | (go_at_call 15; clear tokA; refine (H1.out _).mono ?_; rintro e w41 ⟨rfl, hb⟩; have n1 := cell_kept k1 hb; have n2 := cell_kept k2 hb; have n3 := cell_kept k3 hb; have n4 := cell_kept k4 hb; have nH := Aside0.mk (below_then HL.out HL.out.size hb); clear hb k1 k2 k3 k4 HL; have k1 := n1; have k2 := n2; have k3 := n3; have k4 := n4; have HL := nH; clear n1 n2 n3 n4 nH)
                                | (go_at_call 15; clear tokB; refine (H2.out _).mono ?_; rintro e w42 ⟨rfl, hb⟩; have n1 := cell_kept k1 hb; have n2 := cell_kept k2 hb; have n3 := cell_kept k3 hb; have n4 := cell_kept k4 hb; have nH := Aside0.mk (below_then HL.out HL.out.size hb); clear hb k1 k2 k3 k4 HL; have k1 := n1; have k2 := n2; have k3 := n3; have k4 := n4; have HL := nH; clear n1 n2 n3 n4 nH))
                              go_roundg (s + 1 - (K + 1))
                              case measure => omega
                              case rel => exact ⟨K + 1, own, by first | rfl | go_num, rfl, by omega, by omega, HM, ⟨k1⟩, ⟨k2⟩, ⟨k3⟩, ⟨k4⟩, HL⟩
                            · rw [show less best own = best by unfold less; rw [if_neg (by omega : ¬ best < 0), if_neg (by omega : ¬ own < best)]] at hst
                              have HM := Aside0.mk hst
                              have db : decide (best < 0) = false := decide_eq_false (by omega)
                              have dc : decide (own < best) = false := decide_eq_false (by omega)
                              clear hst
                              go_wp2_with (first
                                | (go_at_call 15; clear tokA; refine (H1.out _).mono ?_; rintro e w41 ⟨rfl, hb⟩; have n1 := cell_kept k1 hb; have n2 := cell_kept k2 hb; have n3 := cell_kept k3 hb; have n4 := cell_kept k4 hb; have nH := Aside0.mk (below_then HL.out HL.out.size hb); clear hb k1 k2 k3 k4 HL; have k1 := n1; have k2 := n2; have k3 := n3; have k4 := n4; have HL := nH; clear n1 n2 n3 n4 nH)
                                | (go_at_call 15; clear tokB; refine (H2.out _).mono ?_; rintro e w42 ⟨rfl, hb⟩; have n1 := cell_kept k1 hb; have n2 := cell_kept k2 hb; have n3 := cell_kept k3 hb; have n4 := cell_kept k4 hb; have nH := Aside0.mk (below_then HL.out HL.out.size hb); clear hb k1 k2 k3 k4 HL; have k1 := n1; have k2 := n2; have k3 := n3; have k4 := n4; have HL := nH; clear n1 n2 n3 n4 nH))
                              go_roundg (s + 1 - (K + 1))
                              case measure => omega
                              case rel => exact ⟨K + 1, best, by first | rfl | go_num, rfl, by omega, by omega, HM, ⟨k1⟩, ⟨k2⟩, ⟨k3⟩, ⟨k4⟩, HL⟩
                        · have h2 := least_not_eq (W := (y1 : Int)) (H := (y2 : Int)) (q := (d : Int)) (fun h => hBq (by have := h.2.2; rw [cast_mul] at this; omega))
                          have H2 := Aside0.mk (fun W => impl_LeastToEat.calls (y1 : Int) (y2 : Int) (d : Int) 0 false W h2)
                          have hst := splits_none HM.out (fun h => hBq (by have := h.2.2; rw [Q2.out, ← hd] at this; exact this))
                          clear h1 h2 hi hj hd HM
                          have HM := Aside0.mk hst
                          clear hst
                          go_wp2_with (first
                            | (go_at_call 15; clear tokA; refine (H1.out _).mono ?_; rintro e w41 ⟨rfl, hb⟩; have n1 := cell_kept k1 hb; have n2 := cell_kept k2 hb; have n3 := cell_kept k3 hb; have n4 := cell_kept k4 hb; have nH := Aside0.mk (below_then HL.out HL.out.size hb); clear hb k1 k2 k3 k4 HL; have k1 := n1; have k2 := n2; have k3 := n3; have k4 := n4; have HL := nH; clear n1 n2 n3 n4 nH)
                            | (go_at_call 15; clear tokB; refine (H2.out _).mono ?_; rintro e w42 ⟨rfl, hb⟩; have n1 := cell_kept k1 hb; have n2 := cell_kept k2 hb; have n3 := cell_kept k3 hb; have n4 := cell_kept k4 hb; have nH := Aside0.mk (below_then HL.out HL.out.size hb); clear hb k1 k2 k3 k4 HL; have k1 := n1; have k2 := n2; have k3 := n3; have k4 := n4; have HL := nH; clear n1 n2 n3 n4 nH))
                          go_roundg (s + 1 - (K + 1))
                          case measure => omega
                          case rel => exact ⟨K + 1, best, by first | rfl | go_num, rfl, by omega, by omega, HM, ⟨k1⟩, ⟨k2⟩, ⟨k3⟩, ⟨k4⟩, HL⟩
                      · have h1 := least_not_eq (W := (x1 : Int)) (H := (x2 : Int)) (q := (K : Int)) (fun h => hA (by have := h.2.2; rw [cast_mul] at this; omega))
                        have H1 := Aside0.mk (fun W => impl_LeastToEat.calls (x1 : Int) (x2 : Int) (K : Int) 0 false W h1)
                        obtain ⟨j2, b2, h2⟩ : ∃ j2 b2, impl_LeastToEat.f (y1 : Int) (y2 : Int) (d : Int) = some (j2, b2) := ⟨_, _, rfl⟩
                        have H2 := Aside0.mk (fun W => impl_LeastToEat.calls (y1 : Int) (y2 : Int) (d : Int) j2 b2 W h2)
                        have hst := splits_none HM.out (fun h => hA (by have := h.2.1; rw [Q1.out] at this; exact this))
                        clear h1 h2 hi hj hd HM
                        have HM := Aside0.mk hst
                        clear hst
                        go_wp2_with (first
                          | (go_at_call 15; clear tokA; refine (H1.out _).mono ?_; rintro e w41 ⟨rfl, hb⟩; have n1 := cell_kept k1 hb; have n2 := cell_kept k2 hb; have n3 := cell_kept k3 hb; have n4 := cell_kept k4 hb; have nH := Aside0.mk (below_then HL.out HL.out.size hb); clear hb k1 k2 k3 k4 HL; have k1 := n1; have k2 := n2; have k3 := n3; have k4 := n4; have HL := nH; clear n1 n2 n3 n4 nH)
                          | (go_at_call 15; clear tokB; refine (H2.out _).mono ?_; rintro e w42 ⟨rfl, hb⟩; have n1 := cell_kept k1 hb; have n2 := cell_kept k2 hb; have n3 := cell_kept k3 hb; have n4 := cell_kept k4 hb; have nH := Aside0.mk (below_then HL.out HL.out.size hb); clear hb k1 k2 k3 k4 HL; have k1 := n1; have k2 := n2; have k3 := n3; have k4 := n4; have HL := nH; clear n1 n2 n3 n4 nH))
                        go_roundg (s + 1 - (K + 1))
                        case measure => omega
                        case rel => exact ⟨K + 1, best, by first | rfl | go_num, rfl, by omega, by omega, HM, ⟨k1⟩, ⟨k2⟩, ⟨k3⟩, ⟨k4⟩, HL⟩
                    · have hKz : ¬ (K : Int) ≤ (s : Int) := by omega
                      have eK : K = s + 1 := by omega
                      have hb := HM.out
                      rw [eK] at hb
                      have hbc := HFULL.out best hb
                      rw [← HCO.out] at hbc
                      clear hb HM
                      have eK' := Aside0.mk eK
                      clear eK
                      subst hbc
                      go_wp2_with fail
                      go_meet
                      case rel => exact HL
            case rest =>
              have hb := hcut.out
              clear hcut
              have nKU := Aside0.mk (cell_kept KU.out hb)
              have nHX := Aside0.mk (Kd.C_below HX.out hb)
              have nHY := Aside0.mk (Kd.C_below HY.out hb)
              have nHO := Aside0.mk (Kd.C_below HO.out hb)
              have nHB := Aside0.mk (below_then HB.out HB.out.size hb)
              clear KU HX HY HO HB
              have KU := nKU
              have HX := nHX
              have HY := nHY
              have HO := nHO
              have HB := nHB
              clear nKU nHX nHY nHO nHB
              clear hb KU KV
              go_upto_if 548 with fail
              go_cut [74, 75, 76, 77, 78, 79, 80, 81] from 549 to 677 (fun s74 s75 s76 s77 s78 s79 s80 s81 wx => Aside0 (Below wc.heap.size wc wx))
              case first => as_aux_lemma =>
                clear hfi hfis hl hls hlns hors hdl hd2 hhr
                cases nine with
                | false =>
                  go_wp2_with fail
                  go_meet
                  case rel => exact ⟨Below.refl _ _⟩
                | true =>
                  obtain ⟨js, hro, hlnE, hlen, hX, hY, hjs, hnd, hcb, hso⟩ := lines_facts hor hln
                  clear hor hln
                  subst hro
                  have hl : (js.map (rowOf X.length)).length = js.length := by simp
                  rw [hl] at HO hcO ⊢
                  have HLQ := Aside0.mk hl
                  have HJ := Aside0.mk hjs
                  have HND := Aside0.mk hnd
                  have HCB := Aside0.mk hcb
                  have HSO := Aside0.mk hso
                  have HLN := Aside0.mk hlnE
                  have HLEN := Aside0.mk hlen
                  have hN : js.length < 30 := by omega
                  have hNz : (js.length : Int) ≤ 9223372036854775807 := by omega
                  have wl : IntKind.i64.wrap ((X.length : Int) + (Y.length : Int)) = (js.length : Int) := by rw [IntKind.wrap_i64]; omega
                  obtain ⟨n2, hn2⟩ : ∃ z : Nat, z = 2 * js.length := ⟨_, rfl⟩
                  obtain ⟨nn, hnn⟩ : ∃ z : Nat, z = n2 + 2 := ⟨_, rfl⟩
                  have wl2 : IntKind.i64.wrap (2 * (js.length : Int)) = (n2 : Int) := by rw [IntKind.wrap_i64]; omega
                  have wl3 : IntKind.i64.wrap ((n2 : Int) + 2) = (nn : Int) := by rw [IntKind.wrap_i64]; omega
                  have hmk := fun W => make_run Try.underlying49 info4b rfl nn (nn : Int) rfl (by omega) (by omega) W
                  have HNN := Aside0.mk (show nn = 2 * js.length + 2 by omega)
                  have hnb : nn ≤ 100 := by omega
                  clear hjs hnd hcb hso hlnE hlen hn2 hnn hl
                  go_wp2
                  have RW := Aside0.mk (seen_start wc X.length js nn)
                  have HL := Aside0.mk (below_alloc (Below.refl wc.heap.size wc) (.cells (madeCells #[.bool false] nn) 4))
                  obtain ⟨sb, hsb⟩ : ∃ p, p = wc.heap.size := ⟨_, rfl⟩
                  have HSB := Aside0.mk hsb
                  rw [← hsb] at RW
                  clear hsb hmk wl wl2 wl3
                  go_loopg [74, 75, 76, 77, 564] js.length (fun g1 v74 v75 v76 v77 v564 wr => ∃ i : Nat, v564 = .int .i64 i ∧ js.length - i ≤ g1 ∧ i ≤ js.length ∧ v74 = .int .i64 (sumL X Y (js.take i)).1 ∧ v75 = .int .i64 (sumL X Y (js.take i)).2.1 ∧ v76 = .int .i64 (sumL X Y (js.take i)).2.2 ∧ v77 = .int .i64 (lastC X Y js i) ∧ Aside0 (Row 4 nn (fun _ => True) (fun c => .bool (seenB X.length js i c)) wr wc.heap.size) ∧ Aside0 (Below wc.heap.size wc wr))
                  case atStart => exact ⟨0, rfl, by omega, by omega, rfl, rfl, rfl, rfl, (by rw [HSB.out] at RW; exact RW), HL⟩
                  case round =>
                    clear RW HL
                    obtain ⟨i, rfl, hg1, hi, rfl, rfl, rfl, rfl, RW, HL⟩ := hrel
                    by_cases hlt : i < js.length
                    · have hltz : (i : Int) < (js.length : Int) := by omega
                      have hiz : (0 : Int) ≤ (i : Int) := by omega
                      obtain ⟨s1, s2, s3, s4, s5, s6⟩ := sumL_bound (l0 := X) (l1 := Y) HCB.out hN i hi
                      have HS := Aside0.mk (sumL_succ X Y js i hlt)
                      have HLC := Aside0.mk (last_succ (X := X) (Y := Y) hlt)
                      have hlg := last_ge HCB.out HSO.out hlt
                      have HSN := Aside0.mk (seen_new (p := X.length) hlt HND.out)
                      have HSC := Aside0.mk (seen_succ (p := X.length) hlt)
                      obtain ⟨ad, b, c, hAO, x1, x2, x3⟩ := line_at HO.out rfl i hlt
                      have X1 := Aside0.mk x1
                      have X2 := Aside0.mk x2
                      have X3 := Aside0.mk x3
                      clear x1 x2 x3
                      have hjm := HJ.out js[i] (List.getElem_mem hlt)
                      have hcc := HCB.out js[i]
                      obtain ⟨j, hj⟩ : ∃ j, j = js[i] := ⟨_, rfl⟩
                      rw [← hj] at X2 X3 HSN HSC HLC HS hjm hcc hlg
                      clear hj
                      obtain ⟨s, hs⟩ : ∃ s, s = sumL X Y (js.take i) := ⟨_, rfl⟩
                      rw [← hs] at s1 s2 s3 s4 s5 s6 HS ⊢
                      clear hs
                      obtain ⟨sa, sc, sr⟩ := s
                      simp only at s1 s2 s3 s4 s5 s6 ⊢
                      obtain ⟨la, hla⟩ : ∃ z, z = lastC X Y js i := ⟨_, rfl⟩
                      rw [← hla] at hlg ⊢
                      clear hla
                      obtain ⟨cv, hcv⟩ : ∃ z, z = cstOf X Y j := ⟨_, rfl⟩
                      rw [← hcv] at hcc hlg HLC
                      obtain ⟨hc1', hc2'⟩ := hcc
                      have dl : decide (la < cv) = false := decide_eq_false (by omega)
                      have hcdl := code_lt (p := X.length) (q := Y.length) hjm
                      rw [← HLEN.out, ← HNN.out] at hcdl
                      subst hAO
                      by_cases hw : j < X.length
                      · as_aux_lemma =>
                        have hjz : (j : Int) < (X.length : Int) := by omega
                        have hj0 : (0 : Int) ≤ (j : Int) := by omega
                        rw [show wayOf X.length j = 0 by unfold wayOf; rw [if_pos hw]] at X2
                        rw [show numOf X.length j = j by unfold numOf; rw [if_pos hw]] at X3
                        obtain ⟨a, ha, hx⟩ := Kd.at_int HX.out j hj0 hjz
                        subst ha
                        rw [show rd X (j : Int) = cv by rw [hcv]; unfold cstOf rd; simp [List.getElem?_append, hw], Int.toNat_natCast] at hx
                        have XD := Aside0.mk hx
                        obtain ⟨m1, m2⟩ := mul_in (s := sr) hc1' hc2' (by omega) (by omega)
                        obtain ⟨pr, hpr⟩ : ∃ z, z = cv * sr := ⟨_, rfl⟩
                        rw [← hpr] at m1 m2
                        have wm : IntKind.i64.wrap (cv * sr) = pr := by rw [← hpr, IntKind.wrap_i64]; omega
                        have ws : IntKind.i64.wrap (sa + pr) = sa + pr := by rw [IntKind.wrap_i64]; omega
                        have wc1 : IntKind.i64.wrap (sc + 1) = sc + 1 := by rw [IntKind.wrap_i64]; omega
                        have NEW := Aside0.mk (show sumL X Y (js.take (i + 1)) = (sa + pr, sc + 1, sr) by rw [HS.out]; unfold stepL; rw [if_pos hw, ← hcv, hpr])
                        obtain ⟨cd, hcd⟩ : ∃ z, z = codeOf X.length j := ⟨_, rfl⟩
                        rw [← hcd] at hcdl HSN HSC
                        have hcde : cd = 2 * j := by rw [hcd]; unfold codeOf numOf; rw [if_pos hw, if_pos hw]; rfl
                        have w2j : IntKind.i64.wrap (2 * (j : Int)) = (cd : Int) := by rw [IntKind.wrap_i64]; omega
                        have wcd : IntKind.i64.wrap (cd : Int) = (cd : Int) := by rw [IntKind.wrap_i64]; omega
                        have cdz : (cd : Int) < (nn : Int) := by omega
                        have cd0 : (0 : Int) ≤ (cd : Int) := by omega
                        have cdt : ((cd : Int)).toNat = cd := by omega
                        have jn : decide ((j : Int) < 0) = false := decide_eq_false (by omega)
                        have jl : decide ((X.length : Int) ≤ (j : Int)) = false := decide_eq_false (by omega)
                        have jln : ¬ X.length ≤ j := by omega
                        have HCD := Aside0.mk hcde
                        clear hcv hpr hcd HS hx hcde m1 m2
                        have y1 := cell_kept X1.out HL.out
                        have y2 := cell_kept X2.out HL.out
                        have y3 := cell_kept X3.out HL.out
                        have y4 : wr.cell? ⟨wc.heap.size, cd, none⟩ = some (.bool false) := by have := RW.out.cell cd hcdl trivial; rw [HSN.out] at this; exact this
                        simp only [Nat.reduceMul, Nat.reduceEqDiff, Go.Addr.add, ↓reduceIte] at y3
                        go_upto_region 82 with fail
                        go_quiet (fail)
                        have RWq : Aside0 (Row 4 nn (fun _ => True) (fun c => .bool (seenB X.length js i c)) (wr.drewN nq) wc.heap.size) := RW
                        have HLq := Aside0.mk (pw_below_drewN HL.out nq)
                        clear y1 y2 y3 y4 RW HL
                        generalize wr.drewN nq = wq at RWq HLq ⊢
                        have y2 := cell_kept X2.out HLq.out
                        have y3 := cell_kept X3.out HLq.out
                        have y4 : wq.cell? ⟨wc.heap.size, cd, none⟩ = some (.bool false) := by have := RWq.out.cell cd hcdl trivial; rw [HSN.out] at this; exact this
                        have y5 := RWq.out.frozen cd
                        simp only [Nat.reduceMul, Nat.reduceEqDiff, Go.Addr.add, ↓reduceIte] at y3
                        go_upto_region 84 with fail
                        go_region
                        have RWn : Aside0 (Row 4 nn (fun _ => True) (fun c => .bool (seenB X.length js (i + 1) c)) (wq.setCell ⟨wc.heap.size, cd, none⟩ (.bool true)).drew wc.heap.size) := ⟨seen_put RWq.out HSC.out (cd := cd)⟩
                        have HLn := Aside0.mk (show Below wc.heap.size wc (wq.setCell ⟨wc.heap.size, cd, none⟩ (.bool true)).drew from below_drew1 (HLq.out.setCell (Nat.le_refl _) _))
                        clear y2 y3 y4 y5 RWq HLq
                        generalize (wq.setCell ⟨wc.heap.size, cd, none⟩ (.bool true)).drew = wz at RWn HLn ⊢
                        have y2 := cell_kept X2.out HLn.out
                        have y3 := cell_kept X3.out HLn.out
                        have y6 := cell_kept XD.out HLn.out
                        simp only [Nat.reduceMul, Nat.reduceEqDiff, Go.Addr.add, ↓reduceIte] at y3
                        go_wp2
                        go_roundg (js.length - (i + 1))
                        case measure => omega
                        case rel => exact ⟨i + 1, by first | rfl | go_num, by omega, by omega, (by rw [NEW.out]), (by rw [NEW.out]), (by rw [NEW.out]), (by rw [HLC.out]), RWn, HLn⟩
                      · as_aux_lemma =>
                        obtain ⟨jq, hjq⟩ : ∃ z, z = j - X.length := ⟨_, rfl⟩
                        have hjz : (jq : Int) < (Y.length : Int) := by omega
                        have hj0 : (0 : Int) ≤ (jq : Int) := by omega
                        rw [show wayOf X.length j = 1 by unfold wayOf; rw [if_neg hw]] at X2
                        rw [show numOf X.length j = jq by unfold numOf; rw [if_neg hw, hjq]] at X3
                        obtain ⟨a, ha, hx⟩ := Kd.at_int HY.out jq hj0 hjz
                        subst ha
                        rw [show rd Y (jq : Int) = cv by rw [hcv]; unfold cstOf rd; simp [List.getElem?_append, hw, hjq], Int.toNat_natCast] at hx
                        have XD := Aside0.mk hx
                        obtain ⟨m1, m2⟩ := mul_in (s := sc) hc1' hc2' (by omega) (by omega)
                        obtain ⟨pr, hpr⟩ : ∃ z, z = cv * sc := ⟨_, rfl⟩
                        rw [← hpr] at m1 m2
                        have wm : IntKind.i64.wrap (cv * sc) = pr := by rw [← hpr, IntKind.wrap_i64]; omega
                        have ws : IntKind.i64.wrap (sa + pr) = sa + pr := by rw [IntKind.wrap_i64]; omega
                        have wc1 : IntKind.i64.wrap (sr + 1) = sr + 1 := by rw [IntKind.wrap_i64]; omega
                        have NEW := Aside0.mk (show sumL X Y (js.take (i + 1)) = (sa + pr, sc, sr + 1) by rw [HS.out]; unfold stepL; rw [if_neg hw, ← hcv, hpr])
                        obtain ⟨cd, hcd⟩ : ∃ z, z = codeOf X.length j := ⟨_, rfl⟩
                        rw [← hcd] at hcdl HSN HSC
                        have hcde : cd = 2 * jq + 1 := by rw [hcd]; unfold codeOf numOf; rw [if_neg hw, if_neg hw, ← hjq]
                        obtain ⟨d2, hd2q⟩ : ∃ z, z = 2 * jq := ⟨_, rfl⟩
                        have w2j : IntKind.i64.wrap (2 * (jq : Int)) = (d2 : Int) := by rw [IntKind.wrap_i64]; omega
                        have wcd : IntKind.i64.wrap ((d2 : Int) + 1) = (cd : Int) := by rw [IntKind.wrap_i64]; omega
                        clear hjq hd2q
                        have cdz : (cd : Int) < (nn : Int) := by omega
                        have cd0 : (0 : Int) ≤ (cd : Int) := by omega
                        have cdt : ((cd : Int)).toNat = cd := by omega
                        have jn : decide ((jq : Int) < 0) = false := decide_eq_false (by omega)
                        have jl : decide ((Y.length : Int) ≤ (jq : Int)) = false := decide_eq_false (by omega)
                        have jln : ¬ Y.length ≤ jq := by omega
                        have HCD := Aside0.mk hcde
                        clear hcv hpr hcd HS hx hcde m1 m2
                        have y1 := cell_kept X1.out HL.out
                        have y2 := cell_kept X2.out HL.out
                        have y3 := cell_kept X3.out HL.out
                        have y4 : wr.cell? ⟨wc.heap.size, cd, none⟩ = some (.bool false) := by have := RW.out.cell cd hcdl trivial; rw [HSN.out] at this; exact this
                        simp only [Nat.reduceMul, Nat.reduceEqDiff, Go.Addr.add, ↓reduceIte] at y3
                        go_upto_region 82 with fail
                        go_quiet (fail)
                        have RWq : Aside0 (Row 4 nn (fun _ => True) (fun c => .bool (seenB X.length js i c)) (wr.drewN nq) wc.heap.size) := RW
                        have HLq := Aside0.mk (pw_below_drewN HL.out nq)
                        clear y1 y2 y3 y4 RW HL
                        generalize wr.drewN nq = wq at RWq HLq ⊢
                        have y2 := cell_kept X2.out HLq.out
                        have y3 := cell_kept X3.out HLq.out
                        have y4 : wq.cell? ⟨wc.heap.size, cd, none⟩ = some (.bool false) := by have := RWq.out.cell cd hcdl trivial; rw [HSN.out] at this; exact this
                        have y5 := RWq.out.frozen cd
                        simp only [Nat.reduceMul, Nat.reduceEqDiff, Go.Addr.add, ↓reduceIte] at y3
                        go_upto_region 84 with fail
                        go_region
                        have RWn : Aside0 (Row 4 nn (fun _ => True) (fun c => .bool (seenB X.length js (i + 1) c)) (wq.setCell ⟨wc.heap.size, cd, none⟩ (.bool true)).drew wc.heap.size) := ⟨seen_put RWq.out HSC.out (cd := cd)⟩
                        have HLn := Aside0.mk (show Below wc.heap.size wc (wq.setCell ⟨wc.heap.size, cd, none⟩ (.bool true)).drew from below_drew1 (HLq.out.setCell (Nat.le_refl _) _))
                        clear y2 y3 y4 y5 RWq HLq
                        generalize (wq.setCell ⟨wc.heap.size, cd, none⟩ (.bool true)).drew = wz at RWn HLn ⊢
                        have y2 := cell_kept X2.out HLn.out
                        have y3 := cell_kept X3.out HLn.out
                        have y6 := cell_kept XD.out HLn.out
                        simp only [Nat.reduceMul, Nat.reduceEqDiff, Go.Addr.add, ↓reduceIte] at y3
                        go_wp2
                        go_roundg (js.length - (i + 1))
                        case measure => omega
                        case rel => exact ⟨i + 1, by first | rfl | go_num, by omega, by omega, (by rw [NEW.out]), (by rw [NEW.out]), (by rw [NEW.out]), (by rw [HLC.out]), RWn, HLn⟩
                    · have hltz : ¬ (i : Int) < (js.length : Int) := by omega
                      have ET := Aside0.mk (show js.take i = js by rw [show i = js.length by omega, List.take_length])
                      rw [ET.out, ← HLN.out]
                      go_wp2
                      rw [← HLQ.out]
                      go_meet
                      case rel => exact HL
              case rest =>
                have HBF := Aside0.mk (below_then HB.out HB.out.size hcut.out)
                clear hcut
                go_wp2
                go_ret
                exact ⟨rfl, HBF.out⟩

set_option maxHeartbeats 4000000 in
set_option maxRecDepth 100000 in
theorem law_long (A0 : Option Addr) (c0 : Nat) (l0 : List Int) (A1 : Option Addr) (c1 : Nat) (l1 : List Int) (w : World) (hr0 : Kd.C (Kd.int .u8) w A0 l0.length l0) (hc0 : l0.length ≤ c0) (hr1 : Kd.C (Kd.int .u8) w A1 l1.length l1) (hc1 : l1.length ≤ c1)
    (hbig : laws_big.f l0 l1 = some true) :
    Calls Try.prog 3 #[.slice A0 l0.length c0, .slice A1 l1.length c1] w fun e w' => e = .returned (.bool true) ∧ Below w.heap.size w w' := by
  have HR0 := Aside0.mk hr0
  have HR1 := Aside0.mk hr1
  clear hr0 hr1
  go_enter Try.func3, Try.ntmps3
  go_wp2_with (first
    | (go_at_call 4; refine (laws_big.calls A0 c0 l0 A1 c1 l1 true _ HR0.out hc0 HR1.out hc1 hbig).mono ?_; rintro e w1 ⟨rfl, ⟨⟨n1, rfl⟩⟩⟩))
  go_ret
  exact ⟨rfl, pw_below_drewN (Below.refl _ _) _⟩
end Go.Proofs.Ytkoplphcdkmilaa.All
