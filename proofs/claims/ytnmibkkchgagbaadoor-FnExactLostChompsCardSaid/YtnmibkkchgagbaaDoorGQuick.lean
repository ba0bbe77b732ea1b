/- spec.QuickestWin tells the number of bites: its contract, in the form of the print. Conditions: a list of at most four million numbers. -/
import Derived.Test.YtnmibkkchgagbaaDoorGHeaps
import Derived.Test.YtnmibkkchgagbaaDoorPQuick
import Derived.Test.YtnmibkkchgagbaaDoorPHeap2
namespace Go.Proofs.YtnmibkkchgagbaaDoor.All
open Go.RowKit Go.Proofs.YtnmibkkchgagbaaDoorW.PrintWords Go.Proofs.YtnmibkkchgagbaaDoorW.PrintLast Go.Proofs.YtnmibkkchgagbaaDoorW.PrintMore Go.Shelf Go.Joins Go.Proofs.YtnmibkkchgagbaaDoor.PAll Go.Proofs.YtnmibkkchgagbaaDoor.PHeaps Go.Proofs.YtnmibkkchgagbaaDoor.PFate Go.Proofs.YtnmibkkchgagbaaDoor.PChomp Go.Proofs.YtnmibkkchgagbaaDoor.PQuick Go.Proofs.YtnmibkkchgagbaaDoor.PHeap2
set_option linter.unusedVariables false
set_option linter.unusedSimpArgs false

structure Hq (w : World) (base1 gl : Nat) (vt vn vl vm vr : Value) (T N : List Int) (L : List (List Int)) (l : List Int) (M : List (List Int)) (wr : World) : Prop where
  tab : KI.R 3 wr w.heap.size (fun k => k < gl) vt T
  lng : KI.R 3 wr w.heap.size (fun k => k < base1 ∧ gl ≤ k) vn N
  lst : Kd.S KL 22 wr base1 (fun _ => True) vl L
  mov : Kd.S KL 22 wr base1 (fun _ => True) vm M
  row : KI.R 3 wr base1 (fun _ => True) vr l
  bel : Below w.heap.size w wr
  le : base1 ≤ wr.heap.size
theorem Hq.below {w wr w2 : World} {base1 gl : Nat} {vt vn vl vm vr : Value} {T N : List Int} {L M : List (List Int)} {l : List Int} (h : Hq w base1 gl vt vn vl vm vr T N L l M wr) (hb : Below wr.heap.size wr w2) : Hq w base1 gl vt vn vl vm vr T N L l M w2 :=
  ⟨Kd.R_below h.tab hb, Kd.R_below h.lng hb, Kd.S_below h.lst hb, Kd.S_below h.mov hb, Kd.R_below h.row hb, below_then h.bel h.bel.size hb, Nat.le_trans h.le hb.size⟩
theorem lng_store {w wr : World} {base1 gl cl x : Nat} {vt vl : Value} {T N : List Int} {L : List (List Int)} (ht : KI.R 3 wr w.heap.size (fun k => k < gl) vt T) (hn : KI.R 3 wr w.heap.size (fun k => k < base1 ∧ gl ≤ k) (.slice (some ⟨gl, 0, none⟩) 117649 cl) N) (hl : Kd.S KL 22 wr base1 (fun _ => True) vl L) (hb : Below w.heap.size w wr) (u : Int) :
    KI.R 3 (wr.setCell ⟨gl, x, none⟩ (.int .i64 u)) w.heap.size (fun k => k < gl) vt T ∧ KI.R 3 (wr.setCell ⟨gl, x, none⟩ (.int .i64 u)) w.heap.size (fun k => k < base1 ∧ gl ≤ k) (.slice (some ⟨gl, 0, none⟩) 117649 cl) (N.set x u) ∧ Kd.S KL 22 (wr.setCell ⟨gl, x, none⟩ (.int .i64 u)) base1 (fun _ => True) vl L ∧ Below w.heap.size w (wr.setCell ⟨gl, x, none⟩ (.int .i64 u)) := by
  have hg : gl < base1 := (hn.1 gl (by simp [Value.ownBlock])).1
  have hg0 : w.heap.size ≤ gl := Kd.R_base hn gl (by simp [Value.ownBlock])
  have h1 := (Kd.R_putg hn (x : Int) u).1
  simp only [Int.toNat_natCast] at h1
  refine ⟨Kd.R_far (p := ⟨gl, x, none⟩) ht (fun k hk => by show k ≠ gl; omega) _, h1, ?_, hb.setCell (p := ⟨gl, x, none⟩) hg0 _⟩
  exact Kd.S_mono (Kd.S_far (p := ⟨gl, x, none⟩) (Kd.S_bound hl) (fun k hk e => by have := hk.2.1; simp at e; omega) _) (fun _ _ => trivial)
theorem two_below {w w2 : World} {a b : Addr} {x y : Value} (h : w.cell? a = some x ∧ w.cell? b = some y) (hb : Below w.heap.size w w2) : w2.cell? a = some x ∧ w2.cell? b = some y :=
  ⟨(hb.cell (World.block_lt_of_cell? _ _ h.1)).trans h.1, (hb.cell (World.block_lt_of_cell? _ _ h.2)).trans h.2⟩
theorem tab_cell {w : World} {base gt ct kq : Nat} {ok : Nat → Prop} {T : List Int} {t : Int} (hr : KI.R 3 w base ok (.slice (some ⟨gt, 0, none⟩) 117649 ct) T) (h1 : (kq : Int) < 117649) (ht : rd T (kq : Int) = t) : w.cell? ⟨gt, kq, none⟩ = some (.int .i64 t) := by
  have h3 := (Kd.R_celln (0 : Int) hr (kq : Int) (Int.natCast_nonneg _) h1).1
  rw [show rdOf (0 : Int) T (kq : Int) = t from ht] at h3
  simpa using h3
theorem tab_form {w : World} {base : Nat} {ok : Nat → Prop} {T : List Int} {v : Value} (hr : KI.R 3 w base ok v T) (hl : T.length = 117649) : ∃ g c, v = .slice (some ⟨g, 0, none⟩) 117649 c ∧ base ≤ g ∧ g < w.heap.size := by
  obtain ⟨g, c, e, h1, h2, _⟩ := Kd.R_form hr (by omega)
  rw [hl] at e
  exact ⟨g, c, e, h1, h2⟩
def spec_QuickestWin.f (l0 : List Int) : Option (Int × Bool) := if l0.length ≤ 4000000 then some (qres l0) else none
set_option maxHeartbeats 16000000 in
set_option maxRecDepth 100000 in
theorem spec_QuickestWin.calls (A0 : Option Addr) (c0 : Nat) (l0 : List Int) (r1 : Int) (r2 : Bool) (w : World) (hr0 : KI.C w A0 l0.length l0) (hc0 : l0.length ≤ c0) (h : spec_QuickestWin.f l0 = some (r1, r2)) :
    Calls Tryd.prog 23 #[.slice A0 l0.length c0] w fun e w' => e = .returned (.tuple #[.int .i64 r1, .bool r2]) ∧ Below w.heap.size w w' := by
  unfold spec_QuickestWin.f at h
  split at h
  case isFalse => cases h
  case isTrue hl =>
    injection h with h
    unfold qres at h
    obtain ⟨kg, hkg⟩ := (spec_isC l0 hl).rounds
    have HR0 := Aside0.mk hr0
    cases hb : isC l0 with
    | false =>
      rw [hb] at hkg
      rw [hb, if_neg (by simp), Prod.mk.injEq] at h
      obtain ⟨rfl, rfl⟩ := h
      have HKG := Aside0.mk hkg
      clear hr0 hb hkg
      go_enter Tryd.func23, Tryd.ntmps23
      go_wp2_with (go_at_call 33; refine (spec_cmGood.calls kg A0 c0 l0 false _ HR0.out hc0 HKG.out).mono ?_; rintro e w' ⟨rfl, ⟨nd, rfl⟩⟩)
      go_ret2
      exact ⟨rfl, pw_below_drewN (Below.refl _ _) _⟩
    | true =>
      rw [hb] at hkg h
      have hokp := isC_ok hb
      have hok0 := hokp.1
      have hl6 := hok0.1
      have hl1 := hokp.2
      obtain ⟨hm0, hrd1, hrd6⟩ := isC_all hb
      have hw6 : (rd l0 0).toNat ≤ 6 := by omega
      have hf0 := fate_in hok0
      obtain ⟨ad, eA, hx00⟩ := Kd.at_int hr0 0 (by omega) (by omega)
      subst eA
      replace hx00 : w.cell? ad = some (.int .i64 (rd l0 0)) := hx00
      obtain ⟨kk0, hkk0⟩ := (key_ev hok0).rounds
      have hkv0 := kv_in hok0
      obtain ⟨rd0, hrd0⟩ : ∃ x, rd l0 0 = x := ⟨_, rfl⟩
      obtain ⟨L, hL⟩ : ∃ L, allC rd0.toNat l0.length = L := ⟨_, rfl⟩
      have hheaps : spec_cmHeaps.f rd0 (l0.length : Int) = some (tb L) := by
        have := heaps_f (w := rd0.toNat) (h := l0.length) (by omega) hl6
        rw [show ((rd0.toNat : Nat) : Int) = rd0 by omega, hL] at this
        exact this
      have hallf : spec_cmAll.f rd0 (l0.length : Int) = some L := by
        have := all_f (w := rd0.toNat) (h := l0.length) (by omega) hl6
        rw [show ((rd0.toNat : Nat) : Int) = rd0 by omega, hL] at this
        exact this
      rw [hrd0] at hm0 hw6 hx00 hrd1 hrd6
      have hnx : ∀ (i : Nat) (hi : i < L.length) (m : List Int), m ∈ mv L[i] → nx L[i] m ∈ L.take i := by
        subst hL
        exact fun i hi m hm => nx_take hw6 hl6 hi hm
      have hok : ∀ x ∈ L, ok6 x := by
        subst hL
        exact fun x hx => all_ok6 hw6 hl6 hx
      have hsrt : L.Pairwise (fun a b => kv a < kv b) := by
        subst hL
        exact all_sorted hw6 hl6
      have hlen : L.length ≤ 117649 := by
        subst hL
        exact all_len hw6 hl6
      rw [hL] at hm0
      have htb0 : rd (tb L) (kv l0) = (fate l0).1 + 1 := tb_at hok hsrt hm0
      have hlb0 : rd (lb L) (kv l0) = (fate l0).2 := lb_at hok hsrt hm0
      obtain ⟨kq0, hkq0⟩ : ∃ kq : Nat, kv l0 = kq := ⟨(kv l0).toNat, by omega⟩
      rw [hkq0] at hkk0 hkv0 htb0 hlb0
      have hq00 : (0 : Int) ≤ (kq0 : Int) := Int.natCast_nonneg _
      have hq01 : (kq0 : Int) < 117649 := hkv0.2
      have hz0 : (0 : Int) < (l0.length : Int) := by omega
      have HKG := Aside0.mk hkg
      have HKK0 := Aside0.mk hkk0
      have HHEAPS := Aside0.mk (fun W => spec_cmHeaps.calls rd0 (l0.length : Int) (tb L) W hheaps)
      have HALL := Aside0.mk (fun W => spec_cmAll.calls rd0 (l0.length : Int) L W hallf)
      have HNX := Aside0.mk hnx
      have HOK := Aside0.mk hok
      have HSRT := Aside0.mk hsrt
      have HTB0 := Aside0.mk htb0
      have HLB0 := Aside0.mk hlb0
      have HL0 := Aside0.mk hx00
      have hlt0 := World.block_lt_of_cell? _ _ hx00
      have HLT0 := Aside0.mk hlt0
      clear hr0 hb hkg hokp hok0 hkk0 hheaps hallf hnx hok hsrt htb0 hlb0 hL hrd0 hm0 hkq0 hkv0 hw6 hlt0 hx00
      by_cases hz : 0 < (fate l0).1
      · rw [if_pos ⟨rfl, hz⟩, Prod.mk.injEq] at h
        obtain ⟨h1, rfl⟩ := h
        have H1 := Aside0.mk h1
        have hn1 : (((fate l0).1 + 1) == 1) = false := beq_eq_false_iff_ne.2 (by omega)
        obtain ⟨t0, ht0⟩ : ∃ t0, (fate l0).1 + 1 = t0 := ⟨_, rfl⟩
        rw [ht0] at hn1 HTB0
        clear ht0 hz h1 hf0
        go_enter Tryd.func23, Tryd.ntmps23
        have tok1 : True := trivial
        go_wp2_with (first
          | (go_at_call 33; refine (spec_cmGood.calls kg _ c0 l0 true _ HR0.out hc0 HKG.out).mono ?_; rintro e w' ⟨rfl, ⟨nd, rfl⟩⟩; have c33 : (w.drewN nd).cell? ad = some (.int .i64 rd0) := HL0.out; have HBD : Aside0 (Below w.heap.size w (w.drewN nd)) := ⟨pw_below_drewN (Below.refl _ _) nd⟩)
          | (go_at_call 38; refine (HHEAPS.out _).mono ?_; rintro e w2 ⟨v22, rfl, hr2, hb2⟩; obtain ⟨gt, ct, rfl, hgt1, hgt2⟩ := tab_form hr2 (tb_len L); have HR2 := Aside0.mk hr2; have HB2 : Aside0 (Below w.heap.size w w2) := ⟨HBD.out.trans hb2⟩; have t38 := tab_cell hr2 hq01 HTB0.out; clear hr2 hb2 hgt1 hgt2)
          | (go_at_call 40; refine (spec_cmKey.calls kk0 _ c0 l0 (kq0 : Int) _ (by first | exact Kd.C_below HR0.out HB2.out | exact Kd.C_drewN (Kd.C_below HR0.out HB2.out) _) hc0 HKK0.out).mono ?_; rintro e w' ⟨rfl, ⟨nd2, rfl⟩⟩; have t40 : (w2.drewN nd2).cell? ⟨gt, kq0, none⟩ = some (.int .i64 t0) := t38)
          | ((with_reducible refine gate_dst (N := 31) rfl ?_); refine Kd.R_make KI (w0 := w2.drewN nd2) (w2.drewN nd2).heap.size 3 rfl (N := 31) rfl 22 _ _ rfl 117649 rfl rfl Tryd.underlying22 (.int .i64 0) 8 info3 rfl (by decide) (by decide) 0 (ok := fun _ => True) (okp := fun _ => True) rfl (fun _ hk => hk) trivial (by decide) (by decide) (Below.refl _ _) (Nat.le_refl _) ?_; intro v31 w4 hr hb hg hn; obtain ⟨gl, cl, rfl, hgl1, hgl2⟩ := tab_form hr (List.length_replicate); have HR4 := Aside0.mk hr; have HB4 : Aside0 (Below w2.heap.size w2 w4) := ⟨(pw_below_drewN (Below.refl _ _) nd2).trans hb⟩; have HGL : Aside0 (w2.heap.size ≤ gl ∧ gl < w4.heap.size) := ⟨⟨hgl1, hgl2⟩⟩; have c4 : w4.cell? ad = some (.int .i64 rd0) := ((HB2.out.trans (HB4.out.mono HB2.out.size)).cell HLT0.out).trans HL0.out; clear hr hb hg hn hgl1 hgl2)
          | (go_at_call 39; refine (HALL.out _).mono ?_; rintro e w5 ⟨v37, rfl, hs5, hb5⟩; obtain ⟨A37, c37, rfl⟩ := Kd.S_slice hs5; have HS5 := Aside0.mk hs5; have HB5 := Aside0.mk hb5; clear hs5 hb5))
        obtain ⟨base1, hb1⟩ : ∃ B, w4.heap.size = B := ⟨_, rfl⟩
        have hwb : w.heap.size ≤ base1 := by
          rw [← hb1]
          exact Nat.le_trans HB2.out.size HB4.out.size
        have HG2 : Aside0 (gt < gl ∧ gl < base1 ∧ w.heap.size ≤ gl) := ⟨by
          have h1 := HGL.out
          have h2 := Kd.R_lt HR2.out gt (by simp [Value.ownBlock])
          have h3 := HB2.out.size
          omega⟩
        have HQ0 : Aside0 (KI.R 3 w5 w.heap.size (fun k => k < gl) (.slice (some ⟨gt, 0, none⟩) 117649 ct) (tb L) ∧ KI.R 3 w5 w.heap.size (fun k => k < base1 ∧ gl ≤ k) (.slice (some ⟨gl, 0, none⟩) 117649 cl) (lb (L.take 0)) ∧ Kd.S KL 22 w5 base1 (fun _ => True) (.slice A37 L.length c37) L ∧ Below w.heap.size w w5 ∧ base1 ≤ w5.heap.size) := ⟨by
          have b45 := below_then HB4.out HB4.out.size HB5.out
          have hb2s := HB2.out.size
          refine ⟨Kd.R_below (Kd.R_mono (Kd.R_lower (Kd.R_bound HR2.out) (by simp)) (fun k hk => by have := hk.2.2.1; have := HGL.out; omega)) b45, ?_, by rw [← hb1]; exact HS5.out, HB2.out.trans (b45.mono hb2s), by rw [← hb1]; exact HB5.out.size⟩
          refine Kd.R_below (Kd.R_lower (Kd.R_mono (Kd.R_tight rfl HR4.out) (fun k hk => ?_)) hb2s) HB5.out
          have hk' : gl = k := by simpa [Value.ownBlock] using hk.symm
          have := HG2.out
          omega⟩
        clear HR2 HB2 HR4 HB4 HS5 HB5 HGL hb1
        go_loopg [39] L.length (fun gg s39 wr => ∃ i : Nat, i ≤ L.length ∧ L.length - i ≤ gg ∧ s39 = .int .i64 i ∧ Aside0 (KI.R 3 wr w.heap.size (fun k => k < gl) (.slice (some ⟨gt, 0, none⟩) 117649 ct) (tb L) ∧ KI.R 3 wr w.heap.size (fun k => k < base1 ∧ gl ≤ k) (.slice (some ⟨gl, 0, none⟩) 117649 cl) (lb (L.take i)) ∧ Kd.S KL 22 wr base1 (fun _ => True) (.slice A37 L.length c37) L ∧ Below w.heap.size w wr ∧ base1 ≤ wr.heap.size))
        case atStart => exact ⟨0, Nat.zero_le _, by omega, rfl, HQ0⟩
        case round =>
          clear HQ0
          obtain ⟨i, hi, hgg, rfl, HQ⟩ := hrel
          by_cases hlt : i < L.length
          · have hltz : (i : Int) < (L.length : Int) := by omega
            have p0 : (0 : Int) ≤ (i : Int) := Int.natCast_nonneg i
            obtain ⟨g37, cap37, Ar, cr, e37, hx0, hcr, hrow⟩ := S_row HQ.out.2.2.1 hlt
            injection e37 with e37 _ e37c
            subst e37; subst e37c
            have hnx := HNX.out i hlt
            have hokl := HOK.out _ (List.getElem_mem hlt)
            have htl : rd (tb L) (kv L[i]) = (fate L[i]).1 + 1 := tb_at HOK.out HSRT.out (List.getElem_mem hlt)
            have hsn : lb (L.take (i + 1)) = lput (lb (L.take i)) L[i] := by rw [List.take_succ_eq_append_getElem hlt, lb_snoc]
            have hTq : ∀ m ∈ mv L[i], rd (tb L) (kv (nx L[i] m)) = (fate (nx L[i] m)).1 + 1 := fun m hm => tb_at HOK.out HSRT.out (List.mem_of_mem_take (hnx m hm))
            have hNq : ∀ m ∈ mv L[i], rd (lb (L.take i)) (kv (nx L[i] m)) = (fate (nx L[i] m)).2 := fun m hm => lb_at (fun r hr => HOK.out r (List.mem_of_mem_take hr)) (HSRT.out.sublist (List.take_sublist _ _)) (hnx m hm)
            obtain ⟨l, hl⟩ : ∃ l, L[i] = l := ⟨_, rfl⟩
            rw [hl] at hx0 hcr hrow hokl htl hsn hTq hNq
            have hfl := fate_in hokl
            have hkvl := kv_in hokl
            obtain ⟨kq, hkq⟩ : ∃ kq : Nat, kv l = kq := ⟨(kv l).toNat, by omega⟩
            obtain ⟨kk, hkk⟩ := (key_ev hokl).rounds
            rw [hkq] at hkk hkvl htl
            have hqk0 : (0 : Int) ≤ (kq : Int) := Int.natCast_nonneg _
            have hqk1 : (kq : Int) < 117649 := hkvl.2
            obtain ⟨km, hkm⟩ := (moves_ev hokl).rounds
            have hml := mv_len hokl
            have hbest := best_eq hokl
            have hll := hokl.1
            have HBEST := Aside0.mk hbest
            have HSN := Aside0.mk hsn
            have HTQ := Aside0.mk hTq
            have HNQ := Aside0.mk hNq
            have HOKL := Aside0.mk hokl
            have HROW := Aside0.mk hrow
            have HKM := Aside0.mk hkm
            have HKK := Aside0.mk hkk
            have HKQ := Aside0.mk hkq
            have hcel := (Kd.R_celln (0 : Int) HQ.out.1 (kq : Int) (by omega) (by omega)).1
            rw [show rdOf (0 : Int) (tb L) (kq : Int) = (fate l).1 + 1 from htl] at hcel
            simp only [Int.toNat_natCast] at hcel
            clear hnx hokl hrow hkm hkk hl hsn hTq hNq hbest htl hkq hkvl
            by_cases hW : 0 < (fate l).1
            · have hdW : decide ((fate l).1 + 1 > 1) = true := decide_eq_true (by omega)
              have hd1 : decide (1 < (fate l).1 + 1) = true := decide_eq_true (by omega)
              rw [hdW] at HBEST
              obtain ⟨tl, htl⟩ : ∃ t, (fate l).1 + 1 = t := ⟨_, rfl⟩
              rw [htl] at hcel hd1
              have hd2 : 1 < tl := of_decide_eq_true hd1
              clear htl hdW hfl hW
              go_wp2_with (first
                | (go_at_call 40; refine (spec_cmKey.calls kk Ar cr l (kq : Int) _ (Kd.R_reads' HROW.out).2.2 hcr HKK.out).mono ?_; rintro e w' ⟨rfl, ⟨nd4, rfl⟩⟩; have t42 : (wr.drewN nd4).cell? ⟨gt, kq, none⟩ = some (.int .i64 tl) := hcel)
                | (go_at_call 46; refine (spec_cmMoves.calls km Ar cr l (mv l) _ (Kd.C_drewN (Kd.R_reads' HROW.out).2.2 _) hcr HKM.out).mono ?_; rintro e w6 ⟨v50, rfl, hs6, hb6⟩; obtain ⟨A50, c50, rfl⟩ := Kd.S_slice hs6; have HS6 := Aside0.mk hs6; have HB6 : Aside0 (Below wr.heap.size wr w6) := ⟨(pw_below_drewN (Below.refl _ _) nd4).trans hb6⟩; clear hs6 hb6))
              have HS0 : Aside0 (Hq w base1 gl (.slice (some ⟨gt, 0, none⟩) 117649 ct) (.slice (some ⟨gl, 0, none⟩) 117649 cl) (.slice (some ⟨g37, 0, none⟩) L.length c37) (.slice A50 (mv l).length c50) (.slice Ar l.length cr) (tb L) (lb (L.take i)) L l (mv l) w6) := ⟨⟨Kd.R_below HQ.out.1 HB6.out, Kd.R_below HQ.out.2.1 HB6.out, Kd.S_below HQ.out.2.2.1 HB6.out, Kd.S_lower HS6.out HQ.out.2.2.2.2, Kd.R_below HROW.out HB6.out, below_then HQ.out.2.2.2.1 HQ.out.2.2.2.1.size HB6.out, Nat.le_trans HQ.out.2.2.2.2 HB6.out.size⟩⟩
              clear HB6 HS6 HQ HROW hx0 hcel t42
              generalize w6 = wq at HS0 ⊢
              go_loopg [9, 52] (mv l).length (fun gg s9 s52 wr => ∃ j : Nat, j ≤ (mv l).length ∧ (mv l).length - j ≤ gg ∧ s9 = .int .i64 (((mv l).take j).foldl (fun b m => stp true b (fate (nx l m))) (-1)) ∧ s52 = .int .i64 j ∧ Aside0 (Hq w base1 gl (.slice (some ⟨gt, 0, none⟩) 117649 ct) (.slice (some ⟨gl, 0, none⟩) 117649 cl) (.slice (some ⟨g37, 0, none⟩) L.length c37) (.slice A50 (mv l).length c50) (.slice Ar l.length cr) (tb L) (lb (L.take i)) L l (mv l) wr))
              case atStart => exact ⟨0, Nat.zero_le _, by omega, rfl, rfl, HS0⟩
              case round =>
                clear HS0
                obtain ⟨j, hj, hgj, rfl, rfl, HS⟩ := hrel
                by_cases hltj : j < (mv l).length
                · have hltjz : (j : Int) < ((mv l).length : Int) := by omega
                  have p0j : (0 : Int) ≤ (j : Int) := Int.natCast_nonneg j
                  obtain ⟨g50, cap50, Am, cm, e50, hxm, hcm, hmr⟩ := S_row HS.out.mov hltj
                  injection e50 with e50 _ e50c
                  subst e50; subst e50c
                  have hmem : (mv l)[j] ∈ mv l := List.getElem_mem hltj
                  have hfs : ((mv l).take (j + 1)).foldl (fun b m => stp true b (fate (nx l m))) (-1) = stp true (((mv l).take j).foldl (fun b m => stp true b (fate (nx l m))) (-1)) (fate (nx l (mv l)[j])) := by rw [List.take_succ_eq_append_getElem hltj, List.foldl_append]; rfl
                  obtain ⟨m, hm⟩ : ∃ m, (mv l)[j] = m := ⟨_, rfl⟩
                  rw [hm] at hxm hcm hmr hmem hfs
                  have hm2 : m.length = 2 := by obtain ⟨a, y, e, _⟩ := mv_mem hmem; rw [e]; rfl
                  have hnxo := nx_ok HOKL.out hmem
                  have hmm : ∃ (a : Int) (y : Nat), m = [a, (y : Int)] ∧ y < l.length ∧ 0 ≤ a ∧ a < rd l (y : Int) ∧ (a > 0 ∨ y > 0) := mv_mem hmem
                  have hq := HTQ.out m hmem
                  have hq2 := HNQ.out m hmem
                  have hfin := fate_in hnxo.1
                  have hkv := kv_in hnxo.1
                  have hbt : Ev (fun k => spec_cmBite.f k l (rd m 0) (rd m 1)) (nx l m) := by
                    obtain ⟨a, y, rfl, hy, ha, _⟩ := hmm
                    exact spec_bite HOKL.out ha (Int.natCast_nonneg y)
                  obtain ⟨kb, hkb⟩ := hbt.rounds
                  obtain ⟨k2, hk2⟩ := (key_ev hnxo.1).rounds
                  rw [hm2] at hxm hcm hmr
                  obtain ⟨gm, capm, em, _, _, _⟩ := Kd.R_form hmr (by omega)
                  rw [hm2] at em
                  injection em with em _ emc
                  subst em; subst emc
                  have hy0 := (Kd.R_celln (0 : Int) hmr 0 (by omega) (by omega)).1
                  have hy1 := (Kd.R_celln (0 : Int) hmr 1 (by omega) (by omega)).1
                  have e0 : rdOf (0 : Int) m 0 = rd m 0 := rfl
                  have e1 : rdOf (0 : Int) m 1 = rd m 1 := rfl
                  rw [e0] at hy0
                  rw [e1] at hy1
                  simp only [Int.reduceToNat] at hy0 hy1
                  obtain ⟨q, hqq⟩ : ∃ q, nx l m = q := ⟨_, rfl⟩
                  rw [hqq] at hkb hk2 hfin hkv hnxo hfs hq hq2
                  obtain ⟨x, hx⟩ : ∃ x, rd m 0 = x := ⟨_, rfl⟩
                  obtain ⟨y, hy⟩ : ∃ y, rd m 1 = y := ⟨_, rfl⟩
                  rw [hx] at hy0 hkb
                  rw [hy] at hy1 hkb
                  obtain ⟨nq, hnq⟩ : ∃ nq : Nat, kv q = nq := ⟨(kv q).toNat, by omega⟩
                  rw [hnq] at hk2 hkv hq hq2
                  obtain ⟨f1, hf1⟩ : ∃ f, (fate q).1 = f := ⟨_, rfl⟩
                  obtain ⟨f2, hf2⟩ : ∃ f, (fate q).2 = f := ⟨_, rfl⟩
                  rw [hf1] at hfin hq
                  rw [hf2] at hfin hq2
                  obtain ⟨b, hb⟩ : ∃ b, ((mv l).take j).foldl (fun b m => stp true b (fate (nx l m))) (-1) = b := ⟨_, rfl⟩
                  rw [hb] at hfs ⊢
                  have hst : stp true b (fate q) = if true = true ∧ 0 < f1 then b else if b < 0 ∨ (true = true ∧ f2 + 1 < b) ∨ (true = false ∧ b < f2 + 1) then f2 + 1 else b := by
                    unfold stp
                    rw [hf1, hf2]
                  rw [hst] at hfs
                  have hk0 : (0 : Int) ≤ (nq : Int) := Int.natCast_nonneg _
                  have hk1 : (nq : Int) < 117649 := hkv.2
                  have HKB := Aside0.mk hkb
                  have HK2 := Aside0.mk hk2
                  have HFS := Aside0.mk hfs
                  have HTC := Aside0.mk hq
                  have HNC := Aside0.mk hq2
                  have h2b : 0 ≤ f2 ∧ f2 ≤ 40 := by omega
                  have h1b : 0 ≤ f1 ∧ f1 ≤ 36 := by omega
                  clear hmem hm hm2 hnxo hmm hq hq2 hfin hkv hbt hkb hk2 hmr e0 e1 hqq hx hy hnq hfs hb hst hf1 hf2
                  go_wp2
                  have s0 := two_below (w2 := wr.drew) (And.intro hy0 hy1) (below_drew (Below.refl _ _))
                  have HD0 : Aside0 (Below wr.heap.size wr wr.drew) := ⟨below_drew (Below.refl _ _)⟩
                  clear hy0 hy1 hxm
                  go_cut [12] from 53 to 98 (fun s12 wx => s12 = .int .i64 nq ∧ Aside0 (Hq w base1 gl (.slice (some ⟨gt, 0, none⟩) 117649 ct) (.slice (some ⟨gl, 0, none⟩) 117649 cl) (.slice (some ⟨g37, 0, none⟩) L.length c37) (.slice (some ⟨g50, 0, none⟩) (mv l).length c50) (.slice Ar l.length cr) (tb L) (lb (L.take i)) L l (mv l) wx))
                  case first =>
                    go_region_held3 (fun w' => w'.cell? ⟨gm, 0, none⟩ = some (.int .i64 x) ∧ w'.cell? ⟨gm, 1, none⟩ = some (.int .i64 y)) (first | assumption)
                      (first
                        | (go_at_call 47; refine (spec_cmBite.calls kb Ar cr l x y q _ (Kd.R_reads' (Kd.R_drew HS.out.row)).2.2 hcr HKB.out).mono ?_; rintro e w7 ⟨v7, rfl, hr7, hb7⟩; obtain ⟨A7, c7, rfl⟩ := Kd.R_slice hr7; have HR7 := Aside0.mk hr7; have HB7 : Aside0 (Below wr.heap.size wr w7) := ⟨HD0.out.trans hb7⟩; have s7 := two_below s0 hb7; clear hr7 hb7)
                        | (go_at_call 40; refine (spec_cmKey.calls k2 A7 c7 q (nq : Int) _ (Kd.R_reads' HR7.out).2.2 (Kd.R_reads' HR7.out).2.1 HK2.out).mono ?_; rintro e w8 ⟨rfl, ⟨nd5, rfl⟩⟩; have s8 : (w7.drewN nd5).cell? ⟨gm, 0, none⟩ = some (.int .i64 x) ∧ (w7.drewN nd5).cell? ⟨gm, 1, none⟩ = some (.int .i64 y) := s7))
                    all_goals (try go_wp2_with fail)
                    all_goals go_meet
                    all_goals exact ⟨rfl, ⟨HS.out.below (HB7.out.trans (pw_below_drewN (Below.refl _ _) nd5))⟩⟩
                  case rest =>
                    obtain ⟨rfl, HX⟩ := hcut
                    clear s0 HS HD0
                    have hct := (Kd.R_celln (0 : Int) HX.out.tab (nq : Int) (by omega) (by omega)).1
                    rw [show rdOf (0 : Int) (tb L) (nq : Int) = f1 + 1 from HTC.out] at hct
                    have hcn := (Kd.R_celln (0 : Int) HX.out.lng (nq : Int) (by omega) (by omega)).1
                    rw [show rdOf (0 : Int) (lb (L.take i)) (nq : Int) = f2 from HNC.out] at hcn
                    simp only [Int.toNat_natCast] at hct hcn
                    by_cases hc1 : 0 < f1
                    · have hg1 : decide (1 < f1 + 1) = true := decide_eq_true (by omega)
                      have hg2 : 1 < f1 + 1 := by omega
                      have HV : Aside0 ((if true = true ∧ 0 < f1 then b else if b < 0 ∨ (true = true ∧ f2 + 1 < b) ∨ (true = false ∧ b < f2 + 1) then f2 + 1 else b) = b) := ⟨by rw [if_pos ⟨rfl, hc1⟩]⟩
                      go_wp2
                      go_roundg ((mv l).length - (j + 1))
                      case measure => omega
                      case rel => exact ⟨j + 1, by omega, by omega, by rw [HFS.out, HV.out], by go_num, HX⟩
                    · have hg1 : decide (1 < f1 + 1) = false := decide_eq_false (by omega)
                      have hg2 : ¬ 1 < f1 + 1 := by omega
                      by_cases hb0 : b < 0
                      · have hb1 : decide (b < 0) = true := decide_eq_true hb0
                        have HV : Aside0 ((if true = true ∧ 0 < f1 then b else if b < 0 ∨ (true = true ∧ f2 + 1 < b) ∨ (true = false ∧ b < f2 + 1) then f2 + 1 else b) = f2 + 1) := ⟨by rw [if_neg (fun h => hc1 h.2), if_pos (.inl hb0)]⟩
                        go_wp2
                        go_roundg ((mv l).length - (j + 1))
                        case measure => omega
                        case rel => exact ⟨j + 1, by omega, by omega, by rw [HFS.out, HV.out], by go_num, HX⟩
                      · have hb1 : decide (b < 0) = false := decide_eq_false hb0
                        by_cases hb2 : f2 + 1 < b
                        · have hb3 : decide (f2 + 1 < b) = true := decide_eq_true hb2
                          have HV : Aside0 ((if true = true ∧ 0 < f1 then b else if b < 0 ∨ (true = true ∧ f2 + 1 < b) ∨ (true = false ∧ b < f2 + 1) then f2 + 1 else b) = f2 + 1) := ⟨by rw [if_neg (fun h => hc1 h.2), if_pos (.inr (.inl ⟨rfl, hb2⟩))]⟩
                          go_wp2
                          go_roundg ((mv l).length - (j + 1))
                          case measure => omega
                          case rel => exact ⟨j + 1, by omega, by omega, by rw [HFS.out, HV.out], by go_num, HX⟩
                        · have hb3 : decide (f2 + 1 < b) = false := decide_eq_false hb2
                          have HV : Aside0 ((if true = true ∧ 0 < f1 then b else if b < 0 ∨ (true = true ∧ f2 + 1 < b) ∨ (true = false ∧ b < f2 + 1) then f2 + 1 else b) = b) := ⟨by rw [if_neg (fun h => hc1 h.2), if_neg (by rintro (h | ⟨_, h⟩ | ⟨h, _⟩); exact hb0 h; exact hb2 h; cases h)]⟩
                          go_wp2
                          go_roundg ((mv l).length - (j + 1))
                          case measure => omega
                          case rel => exact ⟨j + 1, by omega, by omega, by rw [HFS.out, HV.out], by go_num, HX⟩
                · obtain rfl : j = (mv l).length := by omega
                  have hbe := HBEST.out
                  rw [List.take_of_length_le (Nat.le_refl _)]
                  obtain ⟨b, hb⟩ : ∃ b, (mv l).foldl (fun b m => stp true b (fate (nx l m))) (-1) = b := ⟨_, rfl⟩
                  rw [hb] at hbe ⊢
                  have hmost : spec_l1Most.f 0 b = some (fate l).2 := by
                    rw [← hbe]
                    unfold spec_l1Most.f
                    split <;> rfl
                  have HMOST := Aside0.mk hmost
                  obtain ⟨hz0, hzf⟩ := Kd.R_celln (0 : Int) HS.out.lng (kq : Int) (by omega) (by omega)
                  simp only [Int.toNat_natCast] at hz0 hzf
                  obtain ⟨z, hz⟩ : ∃ z, rdOf (0 : Int) (lb (L.take i)) (kq : Int) = z := ⟨_, rfl⟩
                  rw [hz] at hz0
                  obtain ⟨fl2, hfl2⟩ : ∃ f, (fate l).2 = f := ⟨_, rfl⟩
                  rw [hfl2] at HMOST
                  have HFL2 := Aside0.mk hfl2
                  clear hbe hmost hb hz hfl2
                  go_wp2_with (first
                    | (go_at_call 40; refine (spec_cmKey.calls kk Ar cr l (kq : Int) _ (Kd.R_reads' HS.out.row).2.2 hcr HKK.out).mono ?_; rintro e w6 ⟨rfl, ⟨nd, rfl⟩⟩)
                    | (go_at_call 48; refine (spec_l1Most.calls 0 b fl2 _ HMOST.out).mono ?_; rintro e w6 ⟨rfl, ⟨nd6, rfl⟩⟩; have t6 : (wr.drewN (nd + nd6)).cell? ⟨gl, kq, none⟩ = some (.int .i64 z) := hz0; have f6 : (wr.drewN (nd + nd6)).frozen? ⟨gl, kq, none⟩ = false := hzf))
                  go_roundg (L.length - (i + 1))
                  case measure => omega
                  case rel =>
                    have hst := lng_store (x := kq) (Kd.R_drewN HS.out.tab (nd + nd6)) (Kd.R_drewN HS.out.lng (nd + nd6)) (Kd.S_drewN HS.out.lst (nd + nd6)) (pw_below_drewN HS.out.bel (nd + nd6)) fl2
                    refine ⟨i + 1, by omega, by omega, by go_num, ⟨hst.1, ?_, hst.2.2.1, hst.2.2.2, by simpa [World.setCell] using HS.out.le⟩⟩
                    rw [HSN.out]
                    unfold lput
                    rw [HFL2.out, HKQ.out, Int.toNat_natCast]
                    exact hst.2.1
            · have hdW : decide ((fate l).1 + 1 > 1) = false := decide_eq_false (by omega)
              have hd1 : decide (1 < (fate l).1 + 1) = false := decide_eq_false (by omega)
              rw [hdW] at HBEST
              obtain ⟨tl, htl⟩ : ∃ t, (fate l).1 + 1 = t := ⟨_, rfl⟩
              rw [htl] at hcel hd1
              have hd2 : ¬ 1 < tl := of_decide_eq_false hd1
              clear htl hdW hfl hW
              go_wp2_with (first
                | (go_at_call 40; refine (spec_cmKey.calls kk Ar cr l (kq : Int) _ (Kd.R_reads' HROW.out).2.2 hcr HKK.out).mono ?_; rintro e w' ⟨rfl, ⟨nd4, rfl⟩⟩; have t42 : (wr.drewN nd4).cell? ⟨gt, kq, none⟩ = some (.int .i64 tl) := hcel)
                | (go_at_call 46; refine (spec_cmMoves.calls km Ar cr l (mv l) _ (Kd.C_drewN (Kd.R_reads' HROW.out).2.2 _) hcr HKM.out).mono ?_; rintro e w6 ⟨v50, rfl, hs6, hb6⟩; obtain ⟨A50, c50, rfl⟩ := Kd.S_slice hs6; have HS6 := Aside0.mk hs6; have HB6 : Aside0 (Below wr.heap.size wr w6) := ⟨(pw_below_drewN (Below.refl _ _) nd4).trans hb6⟩; clear hs6 hb6))
              have HS0 : Aside0 (Hq w base1 gl (.slice (some ⟨gt, 0, none⟩) 117649 ct) (.slice (some ⟨gl, 0, none⟩) 117649 cl) (.slice (some ⟨g37, 0, none⟩) L.length c37) (.slice A50 (mv l).length c50) (.slice Ar l.length cr) (tb L) (lb (L.take i)) L l (mv l) w6) := ⟨⟨Kd.R_below HQ.out.1 HB6.out, Kd.R_below HQ.out.2.1 HB6.out, Kd.S_below HQ.out.2.2.1 HB6.out, Kd.S_lower HS6.out HQ.out.2.2.2.2, Kd.R_below HROW.out HB6.out, below_then HQ.out.2.2.2.1 HQ.out.2.2.2.1.size HB6.out, Nat.le_trans HQ.out.2.2.2.2 HB6.out.size⟩⟩
              clear HB6 HS6 HQ HROW hx0 hcel t42
              generalize w6 = wq at HS0 ⊢
              go_loopg [9, 52] (mv l).length (fun gg s9 s52 wr => ∃ j : Nat, j ≤ (mv l).length ∧ (mv l).length - j ≤ gg ∧ s9 = .int .i64 (((mv l).take j).foldl (fun b m => stp false b (fate (nx l m))) (-1)) ∧ s52 = .int .i64 j ∧ Aside0 (Hq w base1 gl (.slice (some ⟨gt, 0, none⟩) 117649 ct) (.slice (some ⟨gl, 0, none⟩) 117649 cl) (.slice (some ⟨g37, 0, none⟩) L.length c37) (.slice A50 (mv l).length c50) (.slice Ar l.length cr) (tb L) (lb (L.take i)) L l (mv l) wr))
              case atStart => exact ⟨0, Nat.zero_le _, by omega, rfl, rfl, HS0⟩
              case round =>
                clear HS0
                obtain ⟨j, hj, hgj, rfl, rfl, HS⟩ := hrel
                by_cases hltj : j < (mv l).length
                · have hltjz : (j : Int) < ((mv l).length : Int) := by omega
                  have p0j : (0 : Int) ≤ (j : Int) := Int.natCast_nonneg j
                  obtain ⟨g50, cap50, Am, cm, e50, hxm, hcm, hmr⟩ := S_row HS.out.mov hltj
                  injection e50 with e50 _ e50c
                  subst e50; subst e50c
                  have hmem : (mv l)[j] ∈ mv l := List.getElem_mem hltj
                  have hfs : ((mv l).take (j + 1)).foldl (fun b m => stp false b (fate (nx l m))) (-1) = stp false (((mv l).take j).foldl (fun b m => stp false b (fate (nx l m))) (-1)) (fate (nx l (mv l)[j])) := by rw [List.take_succ_eq_append_getElem hltj, List.foldl_append]; rfl
                  obtain ⟨m, hm⟩ : ∃ m, (mv l)[j] = m := ⟨_, rfl⟩
                  rw [hm] at hxm hcm hmr hmem hfs
                  have hm2 : m.length = 2 := by obtain ⟨a, y, e, _⟩ := mv_mem hmem; rw [e]; rfl
                  have hnxo := nx_ok HOKL.out hmem
                  have hmm : ∃ (a : Int) (y : Nat), m = [a, (y : Int)] ∧ y < l.length ∧ 0 ≤ a ∧ a < rd l (y : Int) ∧ (a > 0 ∨ y > 0) := mv_mem hmem
                  have hq := HTQ.out m hmem
                  have hq2 := HNQ.out m hmem
                  have hfin := fate_in hnxo.1
                  have hkv := kv_in hnxo.1
                  have hbt : Ev (fun k => spec_cmBite.f k l (rd m 0) (rd m 1)) (nx l m) := by
                    obtain ⟨a, y, rfl, hy, ha, _⟩ := hmm
                    exact spec_bite HOKL.out ha (Int.natCast_nonneg y)
                  obtain ⟨kb, hkb⟩ := hbt.rounds
                  obtain ⟨k2, hk2⟩ := (key_ev hnxo.1).rounds
                  rw [hm2] at hxm hcm hmr
                  obtain ⟨gm, capm, em, _, _, _⟩ := Kd.R_form hmr (by omega)
                  rw [hm2] at em
                  injection em with em _ emc
                  subst em; subst emc
                  have hy0 := (Kd.R_celln (0 : Int) hmr 0 (by omega) (by omega)).1
                  have hy1 := (Kd.R_celln (0 : Int) hmr 1 (by omega) (by omega)).1
                  have e0 : rdOf (0 : Int) m 0 = rd m 0 := rfl
                  have e1 : rdOf (0 : Int) m 1 = rd m 1 := rfl
                  rw [e0] at hy0
                  rw [e1] at hy1
                  simp only [Int.reduceToNat] at hy0 hy1
                  obtain ⟨q, hqq⟩ : ∃ q, nx l m = q := ⟨_, rfl⟩
                  rw [hqq] at hkb hk2 hfin hkv hnxo hfs hq hq2
                  obtain ⟨x, hx⟩ : ∃ x, rd m 0 = x := ⟨_, rfl⟩
                  obtain ⟨y, hy⟩ : ∃ y, rd m 1 = y := ⟨_, rfl⟩
                  rw [hx] at hy0 hkb
                  rw [hy] at hy1 hkb
                  obtain ⟨nq, hnq⟩ : ∃ nq : Nat, kv q = nq := ⟨(kv q).toNat, by omega⟩
                  rw [hnq] at hk2 hkv hq hq2
                  obtain ⟨f1, hf1⟩ : ∃ f, (fate q).1 = f := ⟨_, rfl⟩
                  obtain ⟨f2, hf2⟩ : ∃ f, (fate q).2 = f := ⟨_, rfl⟩
                  rw [hf1] at hfin hq
                  rw [hf2] at hfin hq2
                  obtain ⟨b, hb⟩ : ∃ b, ((mv l).take j).foldl (fun b m => stp false b (fate (nx l m))) (-1) = b := ⟨_, rfl⟩
                  rw [hb] at hfs ⊢
                  have hst : stp false b (fate q) = if false = true ∧ 0 < f1 then b else if b < 0 ∨ (false = true ∧ f2 + 1 < b) ∨ (false = false ∧ b < f2 + 1) then f2 + 1 else b := by
                    unfold stp
                    rw [hf1, hf2]
                  rw [hst] at hfs
                  have hk0 : (0 : Int) ≤ (nq : Int) := Int.natCast_nonneg _
                  have hk1 : (nq : Int) < 117649 := hkv.2
                  have HKB := Aside0.mk hkb
                  have HK2 := Aside0.mk hk2
                  have HFS := Aside0.mk hfs
                  have HTC := Aside0.mk hq
                  have HNC := Aside0.mk hq2
                  have h2b : 0 ≤ f2 ∧ f2 ≤ 40 := by omega
                  have h1b : 0 ≤ f1 ∧ f1 ≤ 36 := by omega
                  clear hmem hm hm2 hnxo hmm hq hq2 hfin hkv hbt hkb hk2 hmr e0 e1 hqq hx hy hnq hfs hb hst hf1 hf2
                  go_wp2
                  have s0 := two_below (w2 := wr.drew) (And.intro hy0 hy1) (below_drew (Below.refl _ _))
                  have HD0 : Aside0 (Below wr.heap.size wr wr.drew) := ⟨below_drew (Below.refl _ _)⟩
                  clear hy0 hy1 hxm
                  go_cut [12] from 53 to 98 (fun s12 wx => s12 = .int .i64 nq ∧ Aside0 (Hq w base1 gl (.slice (some ⟨gt, 0, none⟩) 117649 ct) (.slice (some ⟨gl, 0, none⟩) 117649 cl) (.slice (some ⟨g37, 0, none⟩) L.length c37) (.slice (some ⟨g50, 0, none⟩) (mv l).length c50) (.slice Ar l.length cr) (tb L) (lb (L.take i)) L l (mv l) wx))
                  case first =>
                    go_region_held3 (fun w' => w'.cell? ⟨gm, 0, none⟩ = some (.int .i64 x) ∧ w'.cell? ⟨gm, 1, none⟩ = some (.int .i64 y)) (first | assumption)
                      (first
                        | (go_at_call 47; refine (spec_cmBite.calls kb Ar cr l x y q _ (Kd.R_reads' (Kd.R_drew HS.out.row)).2.2 hcr HKB.out).mono ?_; rintro e w7 ⟨v7, rfl, hr7, hb7⟩; obtain ⟨A7, c7, rfl⟩ := Kd.R_slice hr7; have HR7 := Aside0.mk hr7; have HB7 : Aside0 (Below wr.heap.size wr w7) := ⟨HD0.out.trans hb7⟩; have s7 := two_below s0 hb7; clear hr7 hb7)
                        | (go_at_call 40; refine (spec_cmKey.calls k2 A7 c7 q (nq : Int) _ (Kd.R_reads' HR7.out).2.2 (Kd.R_reads' HR7.out).2.1 HK2.out).mono ?_; rintro e w8 ⟨rfl, ⟨nd5, rfl⟩⟩; have s8 : (w7.drewN nd5).cell? ⟨gm, 0, none⟩ = some (.int .i64 x) ∧ (w7.drewN nd5).cell? ⟨gm, 1, none⟩ = some (.int .i64 y) := s7))
                    all_goals (try go_wp2_with fail)
                    all_goals go_meet
                    all_goals exact ⟨rfl, ⟨HS.out.below (HB7.out.trans (pw_below_drewN (Below.refl _ _) nd5))⟩⟩
                  case rest =>
                    obtain ⟨rfl, HX⟩ := hcut
                    clear s0 HS HD0
                    have hct := (Kd.R_celln (0 : Int) HX.out.tab (nq : Int) (by omega) (by omega)).1
                    rw [show rdOf (0 : Int) (tb L) (nq : Int) = f1 + 1 from HTC.out] at hct
                    have hcn := (Kd.R_celln (0 : Int) HX.out.lng (nq : Int) (by omega) (by omega)).1
                    rw [show rdOf (0 : Int) (lb (L.take i)) (nq : Int) = f2 from HNC.out] at hcn
                    simp only [Int.toNat_natCast] at hct hcn
                    by_cases hb0 : b < 0
                    · have hb1 : decide (b < 0) = true := decide_eq_true hb0
                      have HV : Aside0 ((if false = true ∧ 0 < f1 then b else if b < 0 ∨ (false = true ∧ f2 + 1 < b) ∨ (false = false ∧ b < f2 + 1) then f2 + 1 else b) = f2 + 1) := ⟨by rw [if_neg (by simp), if_pos (.inl hb0)]⟩
                      go_wp2
                      go_roundg ((mv l).length - (j + 1))
                      case measure => omega
                      case rel => exact ⟨j + 1, by omega, by omega, by rw [HFS.out, HV.out], by go_num, HX⟩
                    · have hb1 : decide (b < 0) = false := decide_eq_false hb0
                      by_cases hb2 : b < f2 + 1
                      · have hb3 : decide (b < f2 + 1) = true := decide_eq_true hb2
                        have HV : Aside0 ((if false = true ∧ 0 < f1 then b else if b < 0 ∨ (false = true ∧ f2 + 1 < b) ∨ (false = false ∧ b < f2 + 1) then f2 + 1 else b) = f2 + 1) := ⟨by rw [if_neg (by simp), if_pos (.inr (.inr ⟨rfl, hb2⟩))]⟩
                        go_wp2
                        go_roundg ((mv l).length - (j + 1))
                        case measure => omega
                        case rel => exact ⟨j + 1, by omega, by omega, by rw [HFS.out, HV.out], by go_num, HX⟩
                      · have hb3 : decide (b < f2 + 1) = false := decide_eq_false hb2
                        have HV : Aside0 ((if false = true ∧ 0 < f1 then b else if b < 0 ∨ (false = true ∧ f2 + 1 < b) ∨ (false = false ∧ b < f2 + 1) then f2 + 1 else b) = b) := ⟨by rw [if_neg (by simp), if_neg (by rintro (h | ⟨h, _⟩ | ⟨_, h⟩); exact hb0 h; cases h; exact hb2 h)]⟩
                        go_wp2
                        go_roundg ((mv l).length - (j + 1))
                        case measure => omega
                        case rel => exact ⟨j + 1, by omega, by omega, by rw [HFS.out, HV.out], by go_num, HX⟩
                · obtain rfl : j = (mv l).length := by omega
                  have hbe := HBEST.out
                  rw [List.take_of_length_le (Nat.le_refl _)]
                  obtain ⟨b, hb⟩ : ∃ b, (mv l).foldl (fun b m => stp false b (fate (nx l m))) (-1) = b := ⟨_, rfl⟩
                  rw [hb] at hbe ⊢
                  have hmost : spec_l1Most.f 0 b = some (fate l).2 := by
                    rw [← hbe]
                    unfold spec_l1Most.f
                    split <;> rfl
                  have HMOST := Aside0.mk hmost
                  obtain ⟨hz0, hzf⟩ := Kd.R_celln (0 : Int) HS.out.lng (kq : Int) (by omega) (by omega)
                  simp only [Int.toNat_natCast] at hz0 hzf
                  obtain ⟨z, hz⟩ : ∃ z, rdOf (0 : Int) (lb (L.take i)) (kq : Int) = z := ⟨_, rfl⟩
                  rw [hz] at hz0
                  obtain ⟨fl2, hfl2⟩ : ∃ f, (fate l).2 = f := ⟨_, rfl⟩
                  rw [hfl2] at HMOST
                  have HFL2 := Aside0.mk hfl2
                  clear hbe hmost hb hz hfl2
                  go_wp2_with (first
                    | (go_at_call 40; refine (spec_cmKey.calls kk Ar cr l (kq : Int) _ (Kd.R_reads' HS.out.row).2.2 hcr HKK.out).mono ?_; rintro e w6 ⟨rfl, ⟨nd, rfl⟩⟩)
                    | (go_at_call 48; refine (spec_l1Most.calls 0 b fl2 _ HMOST.out).mono ?_; rintro e w6 ⟨rfl, ⟨nd6, rfl⟩⟩; have t6 : (wr.drewN (nd + nd6)).cell? ⟨gl, kq, none⟩ = some (.int .i64 z) := hz0; have f6 : (wr.drewN (nd + nd6)).frozen? ⟨gl, kq, none⟩ = false := hzf))
                  go_roundg (L.length - (i + 1))
                  case measure => omega
                  case rel =>
                    have hst := lng_store (x := kq) (Kd.R_drewN HS.out.tab (nd + nd6)) (Kd.R_drewN HS.out.lng (nd + nd6)) (Kd.S_drewN HS.out.lst (nd + nd6)) (pw_below_drewN HS.out.bel (nd + nd6)) fl2
                    refine ⟨i + 1, by omega, by omega, by go_num, ⟨hst.1, ?_, hst.2.2.1, hst.2.2.2, by simpa [World.setCell] using HS.out.le⟩⟩
                    rw [HSN.out]
                    unfold lput
                    rw [HFL2.out, HKQ.out, Int.toNat_natCast]
                    exact hst.2.1
          · obtain rfl : i = L.length := by omega
            have hcl := (Kd.R_celln (0 : Int) HQ.out.2.1 (kq0 : Int) (by omega) (by omega)).1
            rw [List.take_of_length_le (Nat.le_refl _), show rdOf (0 : Int) (lb L) (kq0 : Int) = r1 from HLB0.out.trans H1.out] at hcl
            simp only [Int.toNat_natCast] at hcl
            go_wp2_with (go_at_call 40; refine (spec_cmKey.calls kk0 _ c0 l0 (kq0 : Int) _ (Kd.C_below HR0.out HQ.out.2.2.2.1) hc0 HKK0.out).mono ?_; rintro e w' ⟨rfl, ⟨nd3, rfl⟩⟩; have t41 : (wr.drewN nd3).cell? ⟨gl, kq0, none⟩ = some (.int .i64 r1) := hcl)
            go_ret2
            exact ⟨rfl, pw_below_drewN HQ.out.2.2.2.1 _⟩
      · rw [if_neg (fun h => hz h.2), Prod.mk.injEq] at h
        obtain ⟨rfl, rfl⟩ := h
        have hn1 : (((fate l0).1 + 1) == 1) = true := beq_iff_eq.2 (by omega)
        obtain ⟨t0, ht0⟩ : ∃ t0, (fate l0).1 + 1 = t0 := ⟨_, rfl⟩
        rw [ht0] at hn1 HTB0
        clear ht0 hz hf0
        go_enter Tryd.func23, Tryd.ntmps23
        go_wp2_with (first
          | (go_at_call 33; refine (spec_cmGood.calls kg _ c0 l0 true _ HR0.out hc0 HKG.out).mono ?_; rintro e w' ⟨rfl, ⟨nd, rfl⟩⟩; have c33 : (w.drewN nd).cell? ad = some (.int .i64 rd0) := HL0.out; have HBD : Aside0 (Below w.heap.size w (w.drewN nd)) := ⟨pw_below_drewN (Below.refl _ _) nd⟩)
          | (go_at_call 38; refine (HHEAPS.out _).mono ?_; rintro e w2 ⟨v22, rfl, hr2, hb2⟩; obtain ⟨gt, ct, rfl, hgt1, hgt2⟩ := tab_form hr2 (tb_len L); have HR2 := Aside0.mk hr2; have HB2 : Aside0 (Below w.heap.size w w2) := ⟨HBD.out.trans hb2⟩; have t38 := tab_cell hr2 hq01 HTB0.out; clear hr2 hb2 hgt1 hgt2)
          | (go_at_call 40; refine (spec_cmKey.calls kk0 _ c0 l0 (kq0 : Int) _ (by first | exact Kd.C_below HR0.out HB2.out | exact Kd.C_drewN (Kd.C_below HR0.out HB2.out) _) hc0 HKK0.out).mono ?_; rintro e w' ⟨rfl, ⟨nd2, rfl⟩⟩; have t40 : (w2.drewN nd2).cell? ⟨gt, kq0, none⟩ = some (.int .i64 t0) := t38))
        go_ret2
        exact ⟨rfl, by first | exact HB2.out | exact pw_below_drewN HB2.out _⟩
end Go.Proofs.YtnmibkkchgagbaaDoor.All
