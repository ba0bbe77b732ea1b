/- spec.LostChomps lists the lost chomps with a first row and so many squares: its contract, in the form of the print; impl.sum and spec.cmSum add up the rows of a chomp. Conditions: none beyond the print's own. -/
import Derived.Test.YtnmibkkchgagbaaDoorGGoodS
namespace Go.Proofs.YtnmibkkchgagbaaDoor.All
open Go.RowKit Go.Proofs.YtnmibkkchgagbaaDoorW.PrintWords Go.Proofs.YtnmibkkchgagbaaDoorW.PrintLast Go.Proofs.YtnmibkkchgagbaaDoorW.PrintMore Go.Shelf Go.Joins Go.Proofs.YtnmibkkchgagbaaDoor.PAll Go.Proofs.YtnmibkkchgagbaaDoor.PHeaps Go.Proofs.YtnmibkkchgagbaaDoor.PFate Go.Proofs.YtnmibkkchgagbaaDoor.PChomp Go.Proofs.YtnmibkkchgagbaaDoor.PQuick Go.Proofs.YtnmibkkchgagbaaDoor.PHeap2
set_option linter.unusedVariables false
set_option linter.unusedSimpArgs false

theorem sm_take (l : List Int) {i : Nat} (h : i < l.length) : sm (l.take (i + 1)) = sm (l.take i) + l[i] := by
  rw [List.take_succ_eq_append_getElem h, sm_app, sm, sm]
  omega
theorem ok6_take {l : List Int} (h : ok6 l) (i : Nat) : ok6 (l.take i) := ⟨by rw [List.length_take]; have := h.1; omega, fun n hn => h.2 n (List.mem_of_mem_take hn)⟩
theorem cmSum_go {l : List Int} (hok : ok6 l) : ∀ (d i : Nat), i ≤ l.length → l.length - i = d → Ev (fun k => spec_cmSum.l0 k (sm (l.take i)) l (l.length : Int) (i : Int)) (sm l)
  | 0, i, h1, h2 => by
    have e : l.take i = l := List.take_of_length_le (by omega)
    rw [e]
    refine Ev.step (f := fun _ => some (sm l)) (fun k => ?_) (Ev.now _)
    simp only [spec_cmSum.l0]
    rw [if_neg (by omega)]
  | d + 1, i, h1, h2 => by
    have hi : i < l.length := by omega
    have hl := hok.1
    have er : rd l (i : Int) = l[i] := by simp [rd, List.getD_eq_getElem?_getD, hi]
    have ih := cmSum_go hok d (i + 1) (by omega) (by omega)
    have h3 := sm_36 (ok6_take hok (i + 1))
    have hs := sm_take l hi
    rw [hs] at ih h3
    have HWS : Aside0 (PEv.seg (fun x => x) 0 0 = PEv.seg (fun x : Int => x) 0 0) := ⟨rfl⟩
    have hw : wrap64 (sm (l.take i) + l[i]) = sm (l.take i) + l[i] := PEv.wrap_in (by omega) (by omega)
    have HW := Aside0.mk hw
    clear hw
    have HWI : Aside0 (wrap64 ((i : Int) + 1) = ((i + 1 : Nat) : Int)) := ⟨by rw [PEv.wrap_in (x := (i : Int) + 1) (by omega) (by omega)]; omega⟩
    have ER := Aside0.mk er
    clear er
    refine Ev.step (f := fun k => spec_cmSum.l0 k (sm (l.take i) + l[i]) l (l.length : Int) ((i + 1 : Nat) : Int)) (fun k => ?_) ih
    simp only [spec_cmSum.l0]
    rw [if_pos (by omega), if_pos (by omega), if_pos (by omega), ER.out, HW.out, HWI.out]
theorem cmSum_ev {l : List Int} (hok : ok6 l) : Ev (fun k => spec_cmSum.f k l) (sm l) := Ev.congr (fun k => rfl) (cmSum_go hok l.length 0 (Nat.zero_le _) rfl)
set_option maxHeartbeats 4000000 in
theorem impl_sum_calls {A : Option Addr} {c : Nat} {l : List Int} {W : World} (hok : ok6 l) (hr : KI.C W A l.length l) :
    Calls Tryd.prog 54 #[.slice A l.length c] W fun e w' => e = .returned (.int .i64 (sm l)) ∧ Below W.heap.size W w' := by
  have HR := Aside0.mk hr
  have HOK := Aside0.mk hok
  have hl := hok.1
  clear hr hok
  go_enter Tryd.func54, Tryd.ntmps54
  go_wp2
  go_loopg [3, 8] l.length (fun gg s3 s8 wr => ∃ i : Nat, i ≤ l.length ∧ l.length - i ≤ gg ∧ s3 = .int .i64 (sm (l.take i)) ∧ s8 = .int .i64 i ∧ Aside0 (Below W.heap.size W wr))
  case atStart => exact ⟨0, Nat.zero_le _, by omega, rfl, rfl, ⟨Below.refl _ _⟩⟩
  case round =>
    obtain ⟨i, hi, hgg, rfl, rfl, HB⟩ := hrel
    by_cases hlt : i < l.length
    · have hltz : (i : Int) < (l.length : Int) := by omega
      obtain ⟨ad, e, hx0⟩ := Kd.at_int (Kd.C_below HR.out HB.out) (i : Int) (by omega) hltz
      cases e
      rw [show rd l (i : Int) = l[i] by simp [rd, List.getD_eq_getElem?_getD, hlt]] at hx0
      simp only [Int.toNat_natCast] at hx0
      have h3 := sm_36 (ok6_take HOK.out (i + 1))
      have h4 := sm_36 (ok6_take HOK.out i)
      have h5 := HOK.out.2 _ (List.getElem_mem hlt)
      have hs := sm_take l hlt
      rw [hs] at h3
      have HS := Aside0.mk hs
      clear hs
      generalize l[i] = x at hx0 h3 h5 HS
      obtain ⟨t, ht⟩ : ∃ t, sm (l.take i) = t := ⟨_, rfl⟩
      rw [ht] at h3 h4 HS ⊢
      clear ht
      go_wp2
      go_roundg (l.length - (i + 1))
      case measure => omega
      case rel => exact ⟨i + 1, by omega, by omega, by rw [HS.out], by go_num, HB⟩
    · obtain rfl : i = l.length := by omega
      rw [List.take_of_length_le (Nat.le_refl _)]
      go_wp2
      go_ret
      exact ⟨rfl, HB.out⟩

def inQ (a : Int) : Bool := decide (1 ≤ a ∧ a ≤ 36)
def lpred (a b : Int) (c : List Int) : Bool := decide (rd c 0 = a) && (decide (sm c = b) && !won c)
def lres (a b : Int) : List (List Int) × Bool := if inR a = true ∧ inQ b = true then ((allC a.toNat 6).filter (lpred a b), true) else ([], false)
def spec_LostChomps.f (a0 a1 : Int) : Option (List (List Int) × Bool) := some (lres a0 a1)
set_option maxHeartbeats 16000000 in
set_option maxRecDepth 100000 in
theorem spec_LostChomps.calls (a0 a1 : Int) (r1 : List (List Int)) (r2 : Bool) (w : World) (h : spec_LostChomps.f a0 a1 = some (r1, r2)) :
    Calls Tryd.prog 25 #[.int .i64 a0, .int .i64 a1] w fun e w' => ∃ v0_ : Value, e = .returned (.tuple #[v0_, .bool r2]) ∧ Kd.S KL 22 w' w.heap.size (fun _ => True) v0_ r1 ∧ Below w.heap.size w w' := by
  unfold spec_LostChomps.f at h
  injection h with h
  unfold lres at h
  have hs0 := fun b W (hb : inR a0 = b) => spec_l1In.calls a0 1 6 b W (by rw [l1In_eq, ← hb]; rfl)
  have hs1 := fun b W (hb : inQ a1 = b) => spec_l1In.calls a1 1 36 b W (by rw [l1In_eq, ← hb]; rfl)
  cases h0 : inR a0 with
  | false =>
    have hs0 := fun W => hs0 false W h0
    rw [h0, if_neg (by simp), Prod.mk.injEq] at h
    obtain ⟨rfl, rfl⟩ := h
    clear h0 hs1
    go_enter Tryd.func25, Tryd.ntmps25
    go_wp2_with (go_at_call 49; refine (hs0 _).mono ?_; rintro e w' ⟨rfl, ⟨nd, rfl⟩⟩)
    go_ret2
    exact ⟨_, rfl, Kd.S_nil _ _ _ _ _, pw_below_drewN (Below.refl _ _) _⟩
  | true =>
    cases h1 : inQ a1 with
    | false =>
      have hs0 := fun W => hs0 true W h0
      have hs1 := fun W => hs1 false W h1
      rw [h0, h1, if_neg (by simp), Prod.mk.injEq] at h
      obtain ⟨rfl, rfl⟩ := h
      clear h0 h1
      go_enter Tryd.func25, Tryd.ntmps25
      have tok1 : True := trivial
      go_wp2_with (first
        | (go_at_call 49; clear tok1; refine (hs0 _).mono ?_; rintro e w' ⟨rfl, ⟨nd, rfl⟩⟩)
        | (go_at_call 49; refine (hs1 _).mono ?_; rintro e w' ⟨rfl, ⟨nd2, rfl⟩⟩))
      go_ret2
      exact ⟨_, rfl, Kd.S_nil _ _ _ _ _, by first | exact pw_below_drewN (Below.refl _ _) _ | exact pw_below_drewN (pw_below_drewN (Below.refl _ _) _) _⟩
    | true =>
      have hs0 := fun W => hs0 true W h0
      have hs1 := fun W => hs1 true W h1
      rw [h0, h1, if_pos ⟨rfl, rfl⟩, Prod.mk.injEq] at h
      obtain ⟨hr1, rfl⟩ := h
      have H1 := Aside0.mk hr1
      have q0 := of_decide_eq_true h0
      have q1 := of_decide_eq_true h1
      have hw6 : a0.toNat ≤ 6 := by omega
      obtain ⟨L, hL⟩ : ∃ L, allC a0.toNat 6 = L := ⟨_, rfl⟩
      have hheaps : spec_cmHeaps.f a0 6 = some (tb L) := by
        have := heaps_f (w := a0.toNat) (h := 6) hw6 (by omega)
        rw [show ((a0.toNat : Nat) : Int) = a0 by omega, hL] at this
        exact this
      have hallf : spec_cmAll.f a0 6 = some L := by
        have := all_f (w := a0.toNat) (h := 6) hw6 (by omega)
        rw [show ((a0.toNat : Nat) : Int) = a0 by omega, hL] at this
        exact this
      have hT : ∀ c ∈ L, (ok6 c ∧ c ≠ []) ∧ rd (tb L) (kv c) = (fate c).1 + 1 := by
        subst hL
        exact fun c hc => ⟨⟨all_ok6 hw6 (by omega) hc, (mem_all.1 hc).1⟩, tb_rd hw6 (by omega) hc⟩
      have hlen : L.length ≤ 117649 := by
        subst hL
        exact all_len hw6 (by omega)
      rw [hL] at H1
      have HT := Aside0.mk hT
      have HHEAPS := Aside0.mk (fun W => spec_cmHeaps.calls a0 6 (tb L) W hheaps)
      have HALL := Aside0.mk (fun W => spec_cmAll.calls a0 6 L W hallf)
      clear h0 h1 hr1 hT hheaps hallf hL hw6
      go_enter Tryd.func25, Tryd.ntmps25
      have tok1 : True := trivial
      go_wp2_with (first
        | (go_at_call 49; clear tok1; refine (hs0 _).mono ?_; rintro e w' ⟨rfl, ⟨nd, rfl⟩⟩)
        | (go_at_call 49; refine (hs1 _).mono ?_; rintro e w' ⟨rfl, ⟨nd2, rfl⟩⟩; have HBD : Aside0 (Below w.heap.size w (w.drewN (nd + nd2))) := ⟨pw_below_drewN (Below.refl _ _) _⟩)
        | (go_at_call 38; refine (HHEAPS.out _).mono ?_; rintro e w2 ⟨v16, rfl, hr2, hb2⟩; obtain ⟨gt, ct, rfl, hgt1, hgt2⟩ := tab_form hr2 (tb_len L); have HR2 := Aside0.mk hr2; have HB2 : Aside0 (Below w.heap.size w w2) := ⟨HBD.out.trans hb2⟩; clear hr2 hb2 hgt1 hgt2)
        | (go_at_call 39; refine (HALL.out _).mono ?_; rintro e w3 ⟨v21, rfl, hs3, hb3⟩; obtain ⟨A21, c21, rfl⟩ := Kd.S_slice hs3; have HS3 := Aside0.mk hs3; have HB3 := Aside0.mk hb3; clear hs3 hb3))
      obtain ⟨f, hf⟩ := HS3.out
      have HS0 : Aside0 (Gs w w2.heap.size w3.heap.size f (.slice (some ⟨gt, 0, none⟩) 117649 ct) (.slice A21 L.length c21) (.slice none 0 0) (tb L) L ((L.take 0).filter (lpred a0 a1)) 0 w3) := ⟨⟨Kd.R_below (Kd.R_mono (Kd.R_bound HR2.out) (fun k hk => hk.2.2.1)) HB3.out, Kd.R_mono (Kd.R_bound hf) (fun k hk => hk.2.2.1), Kd.S_nil _ _ _ _ _, fun k hk => by simp [Value.ownBlock] at hk, HB2.out.trans (HB3.out.mono HB2.out.size), HB2.out.size, HB3.out.size, Nat.le_refl _⟩⟩
      clear HR2 HS3 hf
      obtain ⟨base1, hb1⟩ : ∃ B, w2.heap.size = B := ⟨_, rfl⟩
      obtain ⟨base2, hb2⟩ : ∃ B, w3.heap.size = B := ⟨_, rfl⟩
      rw [hb1, hb2] at HS0
      clear HB2 HB3 hb1 hb2 HBD hs0 hs1
      go_loopg [6, 23] L.length (fun gg s6 s23 wr => ∃ (j : Nat), j ≤ L.length ∧ L.length - j ≤ gg ∧ s23 = .int .i64 j ∧ Aside0 (Gs w base1 base2 f (.slice (some ⟨gt, 0, none⟩) 117649 ct) (.slice A21 L.length c21) s6 (tb L) L ((L.take j).filter (lpred a0 a1)) j wr))
      case atStart => exact ⟨0, Nat.zero_le _, by omega, rfl, HS0⟩
      case round =>
        clear HS0
        obtain ⟨j, hj, hgj, rfl, HS⟩ := hrel
        by_cases hltj : j < L.length
        · have hltjz : (j : Int) < (L.length : Int) := by omega
          have p0j : (0 : Int) ≤ (j : Int) := Int.natCast_nonneg j
          obtain ⟨g21, cap21, Am, cm, e21, hxm, hcm, hmr⟩ := RW_row HS.out.mov hltj
          injection e21 with e21 _ e21c
          subst e21; subst e21c
          obtain ⟨⟨hokc, hne⟩, hq⟩ := HT.out _ (List.getElem_mem hltj)
          have htk : (L.take (j + 1)).filter (lpred a0 a1) = (L.take j).filter (lpred a0 a1) ++ (if lpred a0 a1 L[j] = true then [L[j]] else []) := by
            rw [List.take_succ_eq_append_getElem hltj, List.filter_append]
            congr 1
            cases hw : lpred a0 a1 L[j] <;> simp [hw]
          have hlp : lpred a0 a1 L[j] = (decide (rd L[j] 0 = a0) && (decide (sm L[j] = a1) && !won L[j])) := rfl
          rw [hlp] at htk
          obtain ⟨c, hc⟩ : ∃ c, L[j] = c := ⟨_, rfl⟩
          rw [hc] at hxm hcm hmr hokc hne hq htk
          have hcl : 0 < c.length := List.length_pos_iff.2 hne
          have hc6 := hokc.1
          have hfin := fate_in hokc
          have hkv := kv_in hokc
          obtain ⟨ks, hks⟩ := (cmSum_ev hokc).rounds
          obtain ⟨k2, hk2⟩ := (key_ev hokc).rounds
          obtain ⟨gm, capm, em, _, _, _⟩ := Kd.R_form hmr hcl
          injection em with em _ emc
          subst em; subst emc
          have hy0 := (Kd.R_celln (0 : Int) hmr 0 (by omega) (by omega)).1
          have e0 : rdOf (0 : Int) c 0 = rd c 0 := rfl
          rw [e0] at hy0
          simp only [Int.reduceToNat] at hy0
          have hwon : won c = decide (0 < (fate c).1) := rfl
          rw [hwon] at htk
          obtain ⟨x, hx⟩ : ∃ x, rd c 0 = x := ⟨_, rfl⟩
          rw [hx] at hy0 htk
          obtain ⟨s, hs⟩ : ∃ s, sm c = s := ⟨_, rfl⟩
          rw [hs] at hks htk
          obtain ⟨nq, hnq⟩ : ∃ nq : Nat, kv c = nq := ⟨(kv c).toNat, by omega⟩
          rw [hnq] at hk2 hkv hq
          obtain ⟨f1, hf1⟩ : ∃ f, (fate c).1 = f := ⟨_, rfl⟩
          rw [hf1] at hfin hq htk
          obtain ⟨tv, htv⟩ : ∃ t, f1 + 1 = t := ⟨_, rfl⟩
          rw [htv] at hq
          have hk0 : (0 : Int) ≤ (nq : Int) := Int.natCast_nonneg _
          have hk1 : (nq : Int) < 117649 := hkv.2
          have hz0 := tab_cell HS.out.tab hk1 hq
          have HKS := Aside0.mk hks
          have HK2 := Aside0.mk hk2
          have HTK := Aside0.mk htk
          have HMR := Aside0.mk hmr
          have hfo : ((L.take j).filter (lpred a0 a1)).length ≤ 117649 := Nat.le_trans (List.length_filter_le _ _) (by rw [List.length_take]; omega)
          have HFO := Aside0.mk hfo
          have h1b : 0 ≤ f1 ∧ f1 ≤ 36 := by omega
          have hclz : (0 : Int) < (c.length : Int) := by omega
          clear hokc hne hq hfin hkv hks hk2 hmr e0 hx hs hnq htk hf1 hfo hlp hwon hc
          by_cases hA : x = a0
          · have hA1 : (x == a0) = true := beq_iff_eq.2 hA
            have HA : Aside0 (decide (x = a0) = true) := ⟨decide_eq_true hA⟩
            clear hA
            by_cases hB : s = a1
            · have hB1 : (s == a1) = true := beq_iff_eq.2 hB
              have HBB : Aside0 (decide (s = a1) = true) := ⟨decide_eq_true hB⟩
              clear hB
              by_cases hz : 0 < f1
              · have hn1 : (tv == 1) = false := beq_eq_false_iff_ne.2 (by omega)
                have HD : Aside0 (decide (0 < f1) = true) := ⟨decide_eq_true hz⟩
                clear htv hz h1b
                go_wp2_with (first
                  | (go_at_call 50; refine (spec_cmSum.calls ks (some ⟨gm, 0, none⟩) cm c s _ (Kd.R_reads' HMR.out).2.2 hcm HKS.out).mono ?_; rintro e w8 ⟨rfl, ⟨nd5, rfl⟩⟩; have t50 : (wr.drewN nd5).cell? ⟨gt, nq, none⟩ = some (.int .i64 tv) := hz0)
                  | (go_at_call 40; refine (spec_cmKey.calls k2 (some ⟨gm, 0, none⟩) cm c (nq : Int) _ (Kd.C_drewN (Kd.R_reads' HMR.out).2.2 _) hcm HK2.out).mono ?_; rintro e w9 ⟨rfl, ⟨nd6, rfl⟩⟩; have t40 : (wr.drewN (nd5 + nd6)).cell? ⟨gt, nq, none⟩ = some (.int .i64 tv) := hz0))
                go_roundg (L.length - (j + 1))
                case measure => omega
                case rel =>
                  refine ⟨j + 1, by omega, by omega, by go_num, ⟨?_⟩⟩
                  have h2 := HTK.out
                  rw [HA.out, HBB.out, HD.out, if_neg (by simp), List.append_nil] at h2
                  rw [h2]
                  exact (HS.out.below (pw_below_drewN (Below.refl _ _) (nd5 + nd6))).next
              · have hn1 : (tv == 1) = true := beq_iff_eq.2 (by omega)
                have HD : Aside0 (decide (0 < f1) = false) := ⟨decide_eq_false hz⟩
                clear htv hz h1b
                obtain ⟨O, hO⟩ : ∃ O, (L.take j).filter (lpred a0 a1) = O := ⟨_, rfl⟩
                rw [hO] at HS HFO HTK
                clear hO
                go_wp2_with (first
                  | (go_at_call 50; refine (spec_cmSum.calls ks (some ⟨gm, 0, none⟩) cm c s _ (Kd.R_reads' HMR.out).2.2 hcm HKS.out).mono ?_; rintro e w8 ⟨rfl, ⟨nd5, rfl⟩⟩; have t50 : (wr.drewN nd5).cell? ⟨gt, nq, none⟩ = some (.int .i64 tv) := hz0)
                  | (go_at_call 40; refine (spec_cmKey.calls k2 (some ⟨gm, 0, none⟩) cm c (nq : Int) _ (Kd.C_drewN (Kd.R_reads' HMR.out).2.2 _) hcm HK2.out).mono ?_; rintro e w9 ⟨rfl, ⟨nd6, rfl⟩⟩; have t40 : (wr.drewN (nd5 + nd6)).cell? ⟨gt, nq, none⟩ = some (.int .i64 tv) := hz0)
                  | ((with_reducible refine gate_builtin (b := .append) (xs := #[.tmp 46, .tmp 48]) rfl ?_); at_builtin; refine Kd.S_append KL (w0 := wr.drewN (nd5 + nd6)) base1 rfl (.tmp 46) (.tmp 48) 36 22 (.slice none 0 0) 24 rfl Tryd.underlying36 info22 rfl (by decide) (by omega) u6 O c [.slice (some ⟨gm, 0, none⟩) c.length cm] (fun k => base2 ≤ k ∨ f k < j + 1) (fun k => (k < base2 ∧ k ≠ g21) ∧ f k = j) rfl rfl ?aP ?aQ ?aF ?aO (Below.refl _ _) (Nat.le_trans HS.out.le2 HS.out.le) ?aL ?_; (case aP => exact Kd.M_row (Kd.R_drewN HMR.out _)); (case aQ => exact fun k hk => ⟨.inr (by omega), fun e => by have := HS.out.own k e.symm; omega⟩); (case aF => exact fun k hk => .inl (Nat.le_trans HS.out.le hk)); (case aO => exact Kd.S_mono (Kd.S_drewN HS.out.out _) (fun k hk => ⟨hk.imp id (fun h => by omega), fun h => by omega⟩)); (case aL => have := HFO.out; omega); intro v1 w1 ho1 hb1' hg1 hat1; have HP := Aside0.mk ((HS.out.below (pw_below_drewN (Below.refl _ _) (nd5 + nd6))).put ho1 hg1 hat1); clear ho1 hb1' hg1 hat1))
                go_roundg (L.length - (j + 1))
                case measure => omega
                case rel =>
                  refine ⟨j + 1, by omega, by omega, by go_num, ⟨?_⟩⟩
                  have h2 := HTK.out
                  rw [HA.out, HBB.out, HD.out, if_pos (by simp)] at h2
                  rw [h2]
                  exact HP.out
            · have hB1 : (s == a1) = false := beq_eq_false_iff_ne.2 hB
              have HBB : Aside0 (decide (s = a1) = false) := ⟨decide_eq_false hB⟩
              clear hB
              go_wp2_with (first
                | (go_at_call 50; refine (spec_cmSum.calls ks (some ⟨gm, 0, none⟩) cm c s _ (Kd.R_reads' HMR.out).2.2 hcm HKS.out).mono ?_; rintro e w8 ⟨rfl, ⟨nd5, rfl⟩⟩; have t50 : (wr.drewN nd5).cell? ⟨gt, nq, none⟩ = some (.int .i64 tv) := hz0))
              go_roundg (L.length - (j + 1))
              case measure => omega
              case rel =>
                refine ⟨j + 1, by omega, by omega, by go_num, ⟨?_⟩⟩
                have h2 := HTK.out
                rw [HA.out, HBB.out, if_neg (by simp), List.append_nil] at h2
                rw [h2]
                exact (HS.out.below (pw_below_drewN (Below.refl _ _) nd5)).next
          · have hA1 : (x == a0) = false := beq_eq_false_iff_ne.2 hA
            have HA : Aside0 (decide (x = a0) = false) := ⟨decide_eq_false hA⟩
            clear hA
            go_wp2
            go_roundg (L.length - (j + 1))
            case measure => omega
            case rel =>
              refine ⟨j + 1, by omega, by omega, by go_num, ⟨?_⟩⟩
              have h2 := HTK.out
              rw [HA.out, if_neg (by simp), List.append_nil] at h2
              rw [h2]
              exact (HS.out.below (Below.refl _ _)).next
        · obtain rfl : j = L.length := by omega
          go_wp2
          go_ret2
          refine ⟨_, rfl, ?_, HS.out.bel⟩
          have h1 := HS.out.out
          rw [List.take_of_length_le (Nat.le_refl _), H1.out] at h1
          exact Kd.S_lower (Kd.S_mono h1 (fun _ _ => trivial)) HS.out.le1
end Go.Proofs.YtnmibkkchgagbaaDoor.All
