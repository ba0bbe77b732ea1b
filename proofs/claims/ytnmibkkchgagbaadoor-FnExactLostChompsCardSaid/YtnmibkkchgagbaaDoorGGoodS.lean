/- spec.GoodChomps lists the bites behind which a chomp is lost, spec.LostChomps the lost chomps with a first row and so many squares: their contracts, in the form of the print. Conditions: a list of at most four million numbers. -/
import Derived.Test.YtnmibkkchgagbaaDoorGQuick
namespace Go.Proofs.YtnmibkkchgagbaaDoor.All
open Go.RowKit Go.Proofs.YtnmibkkchgagbaaDoorW.PrintWords Go.Proofs.YtnmibkkchgagbaaDoorW.PrintLast Go.Proofs.YtnmibkkchgagbaaDoorW.PrintMore Go.Shelf Go.Joins Go.Proofs.YtnmibkkchgagbaaDoor.PAll Go.Proofs.YtnmibkkchgagbaaDoor.PHeaps Go.Proofs.YtnmibkkchgagbaaDoor.PFate Go.Proofs.YtnmibkkchgagbaaDoor.PChomp Go.Proofs.YtnmibkkchgagbaaDoor.PQuick Go.Proofs.YtnmibkkchgagbaaDoor.PHeap2
set_option linter.unusedVariables false
set_option linter.unusedSimpArgs false

/-- An element of a list of lists whose rows' owners are told. -/
theorem RW_row {w : World} {base : Nat} {ok : Nat → Prop} {f : Nat → Nat} {v : Value} {L : List (List Int)} (h : (Rw f).R 22 w base ok v L.zipIdx) {i : Nat} (hi : i < L.length) : ∃ g cap A c, v = .slice (some ⟨g, 0, none⟩) L.length cap ∧ w.cell? ⟨g, i, none⟩ = some (.slice A (L[i]).length c) ∧ (L[i]).length ≤ c ∧ KI.R 3 w base (fun k => (ok k ∧ k ≠ g) ∧ f k = i) (.slice A (L[i]).length c) L[i] := by
  obtain ⟨g, cap, rfl, _, _, _⟩ := Kd.R_form h (by rw [List.length_zipIdx]; omega)
  obtain ⟨cs, hcl, hM, hcc, _⟩ := Kd.R_elem h (([], 0) : List Int × Nat) (i : Int) (by omega) (by rw [List.length_zipIdx]; omega)
  obtain ⟨vi, rfl, hR⟩ := hM
  have hx0 : w.cell? ⟨g, (i : Int).toNat * 1, none⟩ = some vi := hcc 0 _ rfl
  simp only [Int.toNat_natCast, Nat.mul_one] at hx0 hR
  rw [show L.zipIdx.getD i ([], 0) = (L[i], i) by simp [List.getD_eq_getElem?_getD, hi]] at hR
  obtain ⟨A, c, rfl, hc, _⟩ := Kd.R_reads hR
  rw [List.length_zipIdx]
  exact ⟨g, cap, A, c, rfl, hx0, hc, hR⟩
structure Gs (w : World) (base1 base2 : Nat) (f : Nat → Nat) (vt vm vo : Value) (T : List Int) (M O : List (List Int)) (j : Nat) (wr : World) : Prop where
  tab : KI.R 3 wr w.heap.size (fun k => k < base1) vt T
  mov : (Rw f).R 22 wr base1 (fun k => k < base2) vm M.zipIdx
  out : Kd.S KL 22 wr base1 (fun k => base2 ≤ k ∨ f k < j) vo O
  own : ∀ k, vo.ownBlock = some k → base2 ≤ k
  bel : Below w.heap.size w wr
  le1 : w.heap.size ≤ base1
  le2 : base1 ≤ base2
  le : base2 ≤ wr.heap.size
section
variable {w wr w2 : World} {base1 base2 j g : Nat} {f : Nat → Nat} {vt vm vo v1 : Value} {T : List Int} {M O : List (List Int)} {m : List Int}
theorem Gs.below (h : Gs w base1 base2 f vt vm vo T M O j wr) (hb : Below wr.heap.size wr w2) : Gs w base1 base2 f vt vm vo T M O j w2 :=
  ⟨Kd.R_below h.tab hb, Kd.R_below h.mov hb, Kd.S_below h.out hb, h.own, below_then h.bel h.bel.size hb, h.le1, h.le2, Nat.le_trans h.le hb.size⟩
theorem Gs.next (h : Gs w base1 base2 f vt vm vo T M O j wr) : Gs w base1 base2 f vt vm vo T M O (j + 1) wr :=
  ⟨h.tab, h.mov, Kd.S_mono h.out (fun k hk => hk.imp id (fun h => by omega)), h.own, h.bel, h.le1, h.le2, h.le⟩
theorem Gs.put (h : Gs w base1 base2 f vt vm vo T M O j wr) (ho : Kd.S KL 22 w2 base1 (fun k => base2 ≤ k ∨ f k < j + 1) v1 (O ++ [m])) (hg : wr.grownBy w2 vo.ownBlock) (hat : v1.ownBlock = vo.ownBlock ∨ ∃ b, v1.ownBlock = some b ∧ wr.heap.size ≤ b) : Gs w base1 base2 f vt vm v1 T M (O ++ [m]) (j + 1) w2 := by
  refine ⟨Kd.R_over' h.tab (Kd.S_typed h.out) (by decide) hg, Kd.R_grown h.mov hg (fun k hk e => by have := h.own k e.symm; omega), ho, fun k hk => ?_, ?_, h.le1, h.le2, Nat.le_trans h.le hg.size⟩
  · rcases hat with e | ⟨b, e, hb⟩
    · exact h.own k (e ▸ hk)
    · rw [e] at hk
      injection hk with hk
      have := h.le
      omega
  · exact ⟨hg.os.trans h.bel.os, hg.tape.trans h.bel.tape, hg.output.trans h.bel.output, Nat.le_trans h.bel.size hg.size, fun k hk => (hg.block k (Nat.lt_of_lt_of_le hk h.bel.size) (fun e => by have := h.own k e.symm; have := h.le1; have := h.le2; omega)).trans (h.bel.block k hk)⟩
end
def gres (l : List Int) : List (List Int) × Bool := if isC l = true then ((mv l).filter (fun m => !won (nx l m)), true) else ([], false)
def spec_GoodChomps.f (l0 : List Int) : Option (List (List Int) × Bool) := if l0.length ≤ 4000000 then some (gres l0) else none
set_option maxHeartbeats 16000000 in
set_option maxRecDepth 100000 in
theorem spec_GoodChomps.calls (A0 : Option Addr) (c0 : Nat) (l0 : List Int) (r1 : List (List Int)) (r2 : Bool) (w : World) (hr0 : KI.C w A0 l0.length l0) (hc0 : l0.length ≤ c0) (h : spec_GoodChomps.f l0 = some (r1, r2)) :
    Calls Tryd.prog 30 #[.slice A0 l0.length c0] w fun e w' => ∃ v0_ : Value, e = .returned (.tuple #[v0_, .bool r2]) ∧ Kd.S KL 22 w' w.heap.size (fun _ => True) v0_ r1 ∧ Below w.heap.size w w' := by
  unfold spec_GoodChomps.f at h
  split at h
  case isFalse => cases h
  case isTrue hl =>
    injection h with h
    unfold gres at h
    obtain ⟨kg, hkg⟩ := (spec_isC l0 hl).rounds
    have HR0 := Aside0.mk hr0
    cases hb : isC l0 with
    | false =>
      rw [hb] at hkg
      rw [hb, if_neg (by simp), Prod.mk.injEq] at h
      obtain ⟨rfl, rfl⟩ := h
      have HKG := Aside0.mk hkg
      clear hr0 hb hkg
      go_enter Tryd.func30, Tryd.ntmps30
      go_wp2_with (go_at_call 33; refine (spec_cmGood.calls kg A0 c0 l0 false _ HR0.out hc0 HKG.out).mono ?_; rintro e w' ⟨rfl, ⟨nd, rfl⟩⟩)
      go_ret2
      exact ⟨_, rfl, Kd.S_nil _ _ _ _ _, pw_below_drewN (Below.refl _ _) _⟩
    | true =>
      rw [hb] at hkg h
      rw [if_pos rfl, Prod.mk.injEq] at h
      obtain ⟨h1, rfl⟩ := h
      have H1 := Aside0.mk h1
      have hokp := isC_ok hb
      have hok0 := hokp.1
      have hl6 := hok0.1
      have hl1 := hokp.2
      obtain ⟨hm0, hrd1, hrd6⟩ := isC_all hb
      have hw6 : (rd l0 0).toNat ≤ 6 := by omega
      obtain ⟨ad, eA, hx00⟩ := Kd.at_int hr0 0 (by omega) (by omega)
      subst eA
      replace hx00 : w.cell? ad = some (.int .i64 (rd l0 0)) := hx00
      obtain ⟨rd0, hrd0⟩ : ∃ x, rd l0 0 = x := ⟨_, rfl⟩
      obtain ⟨L, hL⟩ : ∃ L, allC rd0.toNat l0.length = L := ⟨_, rfl⟩
      have hheaps : spec_cmHeaps.f rd0 (l0.length : Int) = some (tb L) := by
        have := heaps_f (w := rd0.toNat) (h := l0.length) (by omega) hl6
        rw [show ((rd0.toNat : Nat) : Int) = rd0 by omega, hL] at this
        exact this
      rw [hrd0] at hm0 hw6 hx00 hrd1 hrd6
      have hTq : ∀ m ∈ mv l0, rd (tb L) (kv (nx l0 m)) = (fate (nx l0 m)).1 + 1 := by
        subst hL
        exact fun m hm => tb_rd hw6 hl6 (closed hw6 hl6 hm0 hm).1
      obtain ⟨km, hkm⟩ := (moves_ev hok0).rounds
      have hml := mv_len hok0
      have HTQ := Aside0.mk hTq
      have HKG := Aside0.mk hkg
      have HHEAPS := Aside0.mk (fun W => spec_cmHeaps.calls rd0 (l0.length : Int) (tb L) W hheaps)
      have HL0 := Aside0.mk hx00
      have HOKL := Aside0.mk hok0
      have HKM := Aside0.mk hkm
      have hlt0 := World.block_lt_of_cell? _ _ hx00
      have HLT0 := Aside0.mk hlt0
      clear hr0 hb hkg hokp hok0 hheaps hL hrd0 hm0 hw6 hlt0 hx00 h1 hTq hkm
      go_enter Tryd.func30, Tryd.ntmps30
      go_wp2_with (first
        | (go_at_call 33; refine (spec_cmGood.calls kg _ c0 l0 true _ HR0.out hc0 HKG.out).mono ?_; rintro e w' ⟨rfl, ⟨nd, rfl⟩⟩; have c33 : (w.drewN nd).cell? ad = some (.int .i64 rd0) := HL0.out; have HBD : Aside0 (Below w.heap.size w (w.drewN nd)) := ⟨pw_below_drewN (Below.refl _ _) nd⟩)
        | (go_at_call 38; refine (HHEAPS.out _).mono ?_; rintro e w2 ⟨v16, rfl, hr2, hb2⟩; obtain ⟨gt, ct, rfl, hgt1, hgt2⟩ := tab_form hr2 (tb_len L); have HR2 := Aside0.mk hr2; have HB2 : Aside0 (Below w.heap.size w w2) := ⟨HBD.out.trans hb2⟩; clear hr2 hb2 hgt1 hgt2)
        | (go_at_call 46; refine (spec_cmMoves.calls km _ c0 l0 (mv l0) _ (Kd.C_below HR0.out HB2.out) hc0 HKM.out).mono ?_; rintro e w3 ⟨v18, rfl, hs3, hb3⟩; obtain ⟨A18, c18, rfl⟩ := Kd.S_slice hs3; have HS3 := Aside0.mk hs3; have HB3 := Aside0.mk hb3; clear hs3 hb3))
      obtain ⟨f, hf⟩ := HS3.out
      have HS0 : Aside0 (Gs w w2.heap.size w3.heap.size f (.slice (some ⟨gt, 0, none⟩) 117649 ct) (.slice A18 (mv l0).length c18) (.slice none 0 0) (tb L) (mv l0) (((mv l0).take 0).filter (fun m => !won (nx l0 m))) 0 w3) := ⟨⟨Kd.R_below (Kd.R_mono (Kd.R_bound HR2.out) (fun k hk => hk.2.2.1)) HB3.out, Kd.R_mono (Kd.R_bound hf) (fun k hk => hk.2.2.1), Kd.S_nil _ _ _ _ _, fun k hk => by simp [Value.ownBlock] at hk, HB2.out.trans (HB3.out.mono HB2.out.size), HB2.out.size, HB3.out.size, Nat.le_refl _⟩⟩
      clear HR2 HS3 hf
      obtain ⟨base1, hb1⟩ : ∃ B, w2.heap.size = B := ⟨_, rfl⟩
      obtain ⟨base2, hb2⟩ : ∃ B, w3.heap.size = B := ⟨_, rfl⟩
      rw [hb1, hb2] at HS0
      clear HB2 HB3 hb1 hb2
      go_loopg [4, 20] (mv l0).length (fun gg s4 s20 wr => ∃ (j : Nat), j ≤ (mv l0).length ∧ (mv l0).length - j ≤ gg ∧ s20 = .int .i64 j ∧ Aside0 (Gs w base1 base2 f (.slice (some ⟨gt, 0, none⟩) 117649 ct) (.slice A18 (mv l0).length c18) s4 (tb L) (mv l0) (((mv l0).take j).filter (fun m => !won (nx l0 m))) j wr))
      case atStart => exact ⟨0, Nat.zero_le _, by omega, rfl, HS0⟩
      case round =>
        clear HS0
        obtain ⟨j, hj, hgj, rfl, HS⟩ := hrel
        by_cases hltj : j < (mv l0).length
        · have hltjz : (j : Int) < ((mv l0).length : Int) := by omega
          have p0j : (0 : Int) ≤ (j : Int) := Int.natCast_nonneg j
          obtain ⟨g18, cap18, Am, cm, e18, hxm, hcm, hmr⟩ := RW_row HS.out.mov hltj
          injection e18 with e18 _ e18c
          subst e18; subst e18c
          have hmem : (mv l0)[j] ∈ mv l0 := List.getElem_mem hltj
          have htk : ((mv l0).take (j + 1)).filter (fun m => !won (nx l0 m)) = ((mv l0).take j).filter (fun m => !won (nx l0 m)) ++ (if won (nx l0 (mv l0)[j]) = true then [] else [(mv l0)[j]]) := by
            rw [List.take_succ_eq_append_getElem hltj, List.filter_append]
            congr 1
            cases hw : won (nx l0 (mv l0)[j]) <;> simp [hw]
          obtain ⟨m, hm⟩ : ∃ m, (mv l0)[j] = m := ⟨_, rfl⟩
          rw [hm] at hxm hcm hmr hmem htk
          have hm2 : m.length = 2 := by obtain ⟨a, y, e, _⟩ := mv_mem hmem; rw [e]; rfl
          have hnxo := nx_ok HOKL.out hmem
          have hmm : ∃ (a : Int) (y : Nat), m = [a, (y : Int)] ∧ y < l0.length ∧ 0 ≤ a ∧ a < rd l0 (y : Int) ∧ (a > 0 ∨ y > 0) := mv_mem hmem
          have hq := HTQ.out m hmem
          have hfin := fate_in hnxo.1
          have hkv := kv_in hnxo.1
          have hbt : Ev (fun k => spec_cmBite.f k l0 (rd m 0) (rd m 1)) (nx l0 m) := by
            obtain ⟨a, y, rfl, hy, ha, _⟩ := hmm
            exact spec_bite HOKL.out ha (Int.natCast_nonneg y)
          obtain ⟨kb, hkb⟩ := hbt.rounds
          obtain ⟨k2, hk2⟩ := (key_ev hnxo.1).rounds
          rw [hm2] at hxm hcm hmr
          obtain ⟨gm, capm, em, _, _, _⟩ := Kd.R_form hmr (by omega)
          rw [hm2] at em
          injection em with em _ emc
          subst em; subst emc
          have hy0 := (Kd.R_celln (0 : Int) hmr 0 (by omega) (by omega)).1
          have hy1 := (Kd.R_celln (0 : Int) hmr 1 (by omega) (by omega)).1
          have e0 : rdOf (0 : Int) m 0 = rd m 0 := rfl
          have e1 : rdOf (0 : Int) m 1 = rd m 1 := rfl
          rw [e0] at hy0
          rw [e1] at hy1
          simp only [Int.reduceToNat] at hy0 hy1
          have hwon : won (nx l0 m) = decide (0 < (fate (nx l0 m)).1) := rfl
          rw [hwon] at htk
          obtain ⟨q, hqq⟩ : ∃ q, nx l0 m = q := ⟨_, rfl⟩
          rw [hqq] at hkb hk2 hfin hkv hnxo hq htk
          obtain ⟨x, hx⟩ : ∃ x, rd m 0 = x := ⟨_, rfl⟩
          obtain ⟨y, hy⟩ : ∃ y, rd m 1 = y := ⟨_, rfl⟩
          rw [hx] at hy0 hkb
          rw [hy] at hy1 hkb
          obtain ⟨nq, hnq⟩ : ∃ nq : Nat, kv q = nq := ⟨(kv q).toNat, by omega⟩
          rw [hnq] at hk2 hkv hq
          obtain ⟨f1, hf1⟩ : ∃ f, (fate q).1 = f := ⟨_, rfl⟩
          rw [hf1] at hfin hq htk
          obtain ⟨tv, htv⟩ : ∃ t, f1 + 1 = t := ⟨_, rfl⟩
          rw [htv] at hq
          have hk0 : (0 : Int) ≤ (nq : Int) := Int.natCast_nonneg _
          have hk1 : (nq : Int) < 117649 := hkv.2
          have hz0 := tab_cell HS.out.tab hk1 hq
          have HKB := Aside0.mk hkb
          have HK2 := Aside0.mk hk2
          have HTK := Aside0.mk htk
          have HMR := Aside0.mk hmr
          have HCM := Aside0.mk hcm
          have hfo : (((mv l0).take j).filter (fun m => !won (nx l0 m))).length ≤ 36 := Nat.le_trans (List.length_filter_le _ _) (by rw [List.length_take]; omega)
          have HFO := Aside0.mk hfo
          have HM2 := Aside0.mk hm2
          have h1b : 0 ≤ f1 ∧ f1 ≤ 36 := by omega
          clear hmem hm hm2 hnxo hmm hq hfin hkv hbt hkb hk2 hmr e0 e1 hqq hx hy hnq htk hf1 hcm hfo hwon
          by_cases hz : 0 < f1
          · have hn1 : (tv == 1) = false := beq_eq_false_iff_ne.2 (by omega)
            have HD : Aside0 (decide (0 < f1) = true) := ⟨decide_eq_true hz⟩
            clear htv hz h1b
            go_wp2
            have s0 := three_below (w2 := wr.drew) (And.intro hy0 (And.intro hy1 hz0)) (below_drew (Below.refl _ _))
            have HD0 : Aside0 (Below wr.heap.size wr wr.drew) := ⟨below_drew (Below.refl _ _)⟩
            have HRC : Aside0 (KI.C wr.drew (some ad) l0.length l0) := ⟨Kd.C_drew (Kd.C_below HR0.out HS.out.bel)⟩
            clear hy0 hy1 hz0 hxm
            go_cut [36] from 21 to 41 (fun s36 wx => s36 = .bool false ∧ Aside0 (Below wr.heap.size wr wx))
            case first =>
              go_region_held3 (fun w' => w'.cell? ⟨gm, 0, none⟩ = some (.int .i64 x) ∧ w'.cell? ⟨gm, 1, none⟩ = some (.int .i64 y) ∧ w'.cell? ⟨gt, nq, none⟩ = some (.int .i64 tv)) (first | assumption)
                (first
                  | (go_at_call 47; refine (spec_cmBite.calls kb (some ad) c0 l0 x y q _ HRC.out hc0 HKB.out).mono ?_; rintro e w7 ⟨v7, rfl, hr7, hb7⟩; obtain ⟨A7, c7, rfl⟩ := Kd.R_slice hr7; have HR7 := Aside0.mk hr7; have HB7 : Aside0 (Below wr.heap.size wr w7) := ⟨HD0.out.trans hb7⟩; have s7 := three_below s0 hb7; clear hr7 hb7)
                  | (go_at_call 40; refine (spec_cmKey.calls k2 A7 c7 q (nq : Int) _ (Kd.R_reads' HR7.out).2.2 (Kd.R_reads' HR7.out).2.1 HK2.out).mono ?_; rintro e w8 ⟨rfl, ⟨nd5, rfl⟩⟩; have s8 : (w7.drewN nd5).cell? ⟨gm, 0, none⟩ = some (.int .i64 x) ∧ (w7.drewN nd5).cell? ⟨gm, 1, none⟩ = some (.int .i64 y) ∧ (w7.drewN nd5).cell? ⟨gt, nq, none⟩ = some (.int .i64 tv) := s7))
              all_goals (try go_wp2_with fail)
              all_goals go_meet
              all_goals exact ⟨rfl, ⟨HB7.out.trans (pw_below_drewN (Below.refl _ _) nd5)⟩⟩
            case rest =>
              obtain ⟨rfl, HX⟩ := hcut
              clear s0 HD0 HRC
              go_wp2
              go_roundg ((mv l0).length - (j + 1))
              case measure => omega
              case rel =>
                refine ⟨j + 1, by omega, by omega, by go_num, ⟨?_⟩⟩
                have h2 := HTK.out
                rw [HD.out, if_pos rfl, List.append_nil] at h2
                rw [h2]
                exact (HS.out.below HX.out).next
          · have hn1 : (tv == 1) = true := beq_iff_eq.2 (by omega)
            have HD : Aside0 (decide (0 < f1) = false) := ⟨decide_eq_false hz⟩
            clear htv hz h1b
            go_wp2
            have s0 := three_below (w2 := wr.drew) (And.intro hy0 (And.intro hy1 hz0)) (below_drew (Below.refl _ _))
            have HD0 : Aside0 (Below wr.heap.size wr wr.drew) := ⟨below_drew (Below.refl _ _)⟩
            have HRC : Aside0 (KI.C wr.drew (some ad) l0.length l0) := ⟨Kd.C_drew (Kd.C_below HR0.out HS.out.bel)⟩
            clear hy0 hy1 hz0 hxm
            go_cut [36] from 21 to 41 (fun s36 wx => s36 = .bool true ∧ Aside0 (Below wr.heap.size wr wx))
            case first =>
              go_region_held3 (fun w' => w'.cell? ⟨gm, 0, none⟩ = some (.int .i64 x) ∧ w'.cell? ⟨gm, 1, none⟩ = some (.int .i64 y) ∧ w'.cell? ⟨gt, nq, none⟩ = some (.int .i64 tv)) (first | assumption)
                (first
                  | (go_at_call 47; refine (spec_cmBite.calls kb (some ad) c0 l0 x y q _ HRC.out hc0 HKB.out).mono ?_; rintro e w7 ⟨v7, rfl, hr7, hb7⟩; obtain ⟨A7, c7, rfl⟩ := Kd.R_slice hr7; have HR7 := Aside0.mk hr7; have HB7 : Aside0 (Below wr.heap.size wr w7) := ⟨HD0.out.trans hb7⟩; have s7 := three_below s0 hb7; clear hr7 hb7)
                  | (go_at_call 40; refine (spec_cmKey.calls k2 A7 c7 q (nq : Int) _ (Kd.R_reads' HR7.out).2.2 (Kd.R_reads' HR7.out).2.1 HK2.out).mono ?_; rintro e w8 ⟨rfl, ⟨nd5, rfl⟩⟩; have s8 : (w7.drewN nd5).cell? ⟨gm, 0, none⟩ = some (.int .i64 x) ∧ (w7.drewN nd5).cell? ⟨gm, 1, none⟩ = some (.int .i64 y) ∧ (w7.drewN nd5).cell? ⟨gt, nq, none⟩ = some (.int .i64 tv) := s7))
              all_goals (try go_wp2_with fail)
              all_goals go_meet
              all_goals exact ⟨rfl, ⟨HB7.out.trans (pw_below_drewN (Below.refl _ _) nd5)⟩⟩
            case rest =>
              obtain ⟨rfl, HX⟩ := hcut
              clear s0 HD0 HRC
              have HSX := Aside0.mk (HS.out.below HX.out)
              have HMX := Aside0.mk (Kd.R_below HMR.out HX.out)
              obtain ⟨O, hO⟩ : ∃ O, ((mv l0).take j).filter (fun m => !won (nx l0 m)) = O := ⟨_, rfl⟩
              rw [hO] at HSX HFO HTK
              clear hO HS HX
              go_wp2_with ((with_reducible refine gate_builtin (b := .append) (xs := #[.tmp 37, .tmp 39]) rfl ?_); at_builtin; refine Kd.S_append KL (w0 := wc) base1 rfl (.tmp 37) (.tmp 39) 36 22 (.slice none 0 0) 24 rfl Tryd.underlying36 info22 rfl (by decide) (by omega) u4 O m [.slice (some ⟨gm, 0, none⟩) 2 cm] (fun k => base2 ≤ k ∨ f k < j + 1) (fun k => (k < base2 ∧ k ≠ g18) ∧ f k = j) rfl rfl ?aP ?aQ ?aF ?aO (Below.refl _ _) (Nat.le_trans HSX.out.le2 HSX.out.le) ?aL ?_; (case aP => exact Kd.M_row HMX.out); (case aQ => exact fun k hk => ⟨.inr (by omega), fun e => by have := HSX.out.own k e.symm; omega⟩); (case aF => exact fun k hk => .inl (Nat.le_trans HSX.out.le hk)); (case aO => exact Kd.S_mono HSX.out.out (fun k hk => ⟨hk.imp id (fun h => by omega), fun h => by omega⟩)); (case aL => have := HFO.out; omega); intro v1 w1 ho1 hb1' hg1 hat1; have HP := Aside0.mk (HSX.out.put ho1 hg1 hat1); clear ho1 hb1' hg1 hat1)
              go_roundg ((mv l0).length - (j + 1))
              case measure => omega
              case rel =>
                refine ⟨j + 1, by omega, by omega, by go_num, ⟨?_⟩⟩
                have h2 := HTK.out
                rw [HD.out, if_neg (by simp)] at h2
                rw [h2]
                exact HP.out
        · obtain rfl : j = (mv l0).length := by omega
          go_wp2
          go_ret2
          refine ⟨_, rfl, ?_, HS.out.bel⟩
          have h1 := HS.out.out
          rw [List.take_of_length_le (Nat.le_refl _), H1.out] at h1
          exact Kd.S_lower (Kd.S_mono h1 (fun _ _ => trivial)) HS.out.le1
end Go.Proofs.YtnmibkkchgagbaaDoor.All
