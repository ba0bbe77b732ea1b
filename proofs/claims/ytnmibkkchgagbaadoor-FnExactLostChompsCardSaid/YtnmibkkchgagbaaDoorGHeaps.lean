/- spec.cmHeaps hands back the table of the heaps of all chomps that fit into a bar: its contract, in the form of the print. Conditions: a bar of at most six times six. -/
import Derived.Test.YtnmibkkchgagbaaDoorPFateAll
import Derived.Test.YtnmibkkchgagbaaDoorGLkAll
import Derived.Shelf.Abstract
import Derived.Lib.SmallJoins
import Derived.Laws.EntriesVeiled
import Derived.StillTailTactics
import Derived.BigQuiet
import Derived.RegionTactic
import Derived.BigRegion
import Derived.IntWalk
import Derived.Deep.RegionHeld3
import Derived.Deep.CutRange
import Derived.Deep.DeepCutAuto
namespace Go.Proofs.YtnmibkkchgagbaaDoor.All
open Go.RowKit Go.Proofs.YtnmibkkchgagbaaDoorW.PrintWords Go.Proofs.YtnmibkkchgagbaaDoorW.PrintLast Go.Proofs.YtnmibkkchgagbaaDoorW.PrintMore Go.Shelf Go.Joins Go.Proofs.YtnmibkkchgagbaaDoor.PAll Go.Proofs.YtnmibkkchgagbaaDoor.PHeaps Go.Proofs.YtnmibkkchgagbaaDoor.PFate Go.Proofs.YtnmibkkchgagbaaDoor.PChomp
set_option linter.unusedVariables false
set_option linter.unusedSimpArgs false

theorem info4 : (Tryd.prog.info? 4).map (fun i => (i.zero, i.size, i.bytes)) = some (some (.bool false), 1, 1) := by kernel_rfl
structure Hs (w : World) (base1 : Nat) (vt vl vs vm vr : Value) (T : List Int) (L : List (List Int)) (l : List Int) (B : List Bool) (M : List (List Int)) (wr : World) : Prop where
  tab : KI.R 3 wr w.heap.size (fun k => k < base1) vt T
  lst : Kd.S KL 22 wr base1 (fun _ => True) vl L
  see : Kd.bool.R 4 wr base1 (fun _ => True) vs B
  mov : Kd.S KL 22 wr base1 (fun _ => True) vm M
  row : KI.R 3 wr base1 (fun _ => True) vr l
  bel : Below w.heap.size w wr
  le : base1 ≤ wr.heap.size
section
variable {w wr w2 : World} {base1 gs cs x : Nat} {vt vl vs vm vr : Value} {T : List Int} {L M : List (List Int)} {l : List Int} {B : List Bool}
theorem Hs.below (h : Hs w base1 vt vl vs vm vr T L l B M wr) (hb : Below wr.heap.size wr w2) : Hs w base1 vt vl vs vm vr T L l B M w2 :=
  ⟨Kd.R_below h.tab hb, Kd.S_below h.lst hb, Kd.R_below h.see hb, Kd.S_below h.mov hb, Kd.R_below h.row hb, below_then h.bel h.bel.size hb, Nat.le_trans h.le hb.size⟩
theorem Hs.store (h : Hs w base1 vt vl (.slice (some ⟨gs, 0, none⟩) 37 cs) vm vr T L l B M wr) (hw : w.heap.size ≤ base1) (b : Bool) : Hs w base1 vt vl (.slice (some ⟨gs, 0, none⟩) 37 cs) vm vr T L l (B.set x b) M (wr.setCell ⟨gs, x, none⟩ (.bool b)) := by
  obtain ⟨cells, hc⟩ := Kd.R_typed h.see gs (by simp [Value.ownBlock])
  have hg : base1 ≤ gs := Kd.R_base h.see gs (by simp [Value.ownBlock])
  have h1 := (Kd.R_putg h.see (x : Int) b).1
  simp only [Int.toNat_natCast] at h1
  exact ⟨Kd.R_set h.tab hc (by decide) x _, Kd.S_set h.lst hc (by decide) x _, h1, Kd.S_set h.mov hc (by decide) x _, Kd.R_set h.row hc (by decide) x _, h.bel.setCell (p := ⟨gs, x, none⟩) (by show w.heap.size ≤ gs; omega) _, by simpa [World.setCell] using h.le⟩
end
section
variable {w wr w2 : World} {base1 gt ct x : Nat} {vl : Value} {T : List Int} {L : List (List Int)}
/-- A store into the table leaves the list. -/
theorem tab_store (ht : KI.R 3 wr w.heap.size (fun k => k < base1) (.slice (some ⟨gt, 0, none⟩) 117649 ct) T) (hl : Kd.S KL 22 wr base1 (fun _ => True) vl L) (hb : Below w.heap.size w wr) (u : Int) :
    KI.R 3 (wr.setCell ⟨gt, x, none⟩ (.int .i64 u)) w.heap.size (fun k => k < base1) (.slice (some ⟨gt, 0, none⟩) 117649 ct) (T.set x u) ∧ Kd.S KL 22 (wr.setCell ⟨gt, x, none⟩ (.int .i64 u)) base1 (fun _ => True) vl L ∧ Below w.heap.size w (wr.setCell ⟨gt, x, none⟩ (.int .i64 u)) := by
  have hg : gt < base1 := ht.1 gt (by simp [Value.ownBlock])
  have hg0 : w.heap.size ≤ gt := Kd.R_base ht gt (by simp [Value.ownBlock])
  have h1 := (Kd.R_putg ht (x : Int) u).1
  simp only [Int.toNat_natCast] at h1
  refine ⟨h1, ?_, hb.setCell (p := ⟨gt, x, none⟩) hg0 _⟩
  exact Kd.S_mono (Kd.S_far (p := ⟨gt, x, none⟩) (Kd.S_bound hl) (fun k hk e => by have := hk.2.1; simp at e; omega) _) (fun _ _ => trivial)
end
/-- An element of a list of lists: its value, and its row. -/
theorem S_row {w : World} {base : Nat} {v : Value} {L : List (List Int)} (h : Kd.S KL 22 w base (fun _ => True) v L) {i : Nat} (hi : i < L.length) : ∃ g cap A c, v = .slice (some ⟨g, 0, none⟩) L.length cap ∧ w.cell? ⟨g, i, none⟩ = some (.slice A (L[i]).length c) ∧ (L[i]).length ≤ c ∧ KI.R 3 w base (fun _ => True) (.slice A (L[i]).length c) L[i] := by
  obtain ⟨g, cap, rfl, _, _, _⟩ := Kd.S_form h (by omega)
  obtain ⟨cs, hcl, hM, hcc, _⟩ := Kd.R_elem (Kd.S_R h) ([] : List Int) (i : Int) (by omega) (by omega)
  obtain ⟨vi, rfl, hR⟩ := hM
  have hx0 : w.cell? ⟨g, (i : Int).toNat * 1, none⟩ = some vi := hcc 0 _ rfl
  simp only [Int.toNat_natCast, Nat.mul_one] at hx0 hR
  rw [show L.getD i [] = L[i] by simp [List.getD_eq_getElem?_getD, hi]] at hR
  obtain ⟨A, c, rfl, hc, _⟩ := Kd.R_reads hR
  exact ⟨g, cap, A, c, rfl, hx0, hc, Kd.R_mono hR (fun _ _ => trivial)⟩
end Go.Proofs.YtnmibkkchgagbaaDoor.All
namespace Go.Proofs.YtnmibkkchgagbaaDoor.All
open Go.RowKit Go.Proofs.YtnmibkkchgagbaaDoorW.PrintWords Go.Proofs.YtnmibkkchgagbaaDoorW.PrintLast Go.Proofs.YtnmibkkchgagbaaDoorW.PrintMore Go.Shelf Go.Joins Go.Proofs.YtnmibkkchgagbaaDoor.PAll Go.Proofs.YtnmibkkchgagbaaDoor.PHeaps Go.Proofs.YtnmibkkchgagbaaDoor.PFate Go.Proofs.YtnmibkkchgagbaaDoor.PChomp
set_option linter.unusedVariables false
set_option linter.unusedSimpArgs false

section
variable {w w2 : World} {a b c : Addr} {x y z : Value}
theorem three_below (h : w.cell? a = some x ∧ w.cell? b = some y ∧ w.cell? c = some z) (hb : Below w.heap.size w w2) : w2.cell? a = some x ∧ w2.cell? b = some y ∧ w2.cell? c = some z :=
  ⟨(hb.cell (World.block_lt_of_cell? _ _ h.1)).trans h.1, (hb.cell (World.block_lt_of_cell? _ _ h.2.1)).trans h.2.1, (hb.cell (World.block_lt_of_cell? _ _ h.2.2)).trans h.2.2⟩
theorem three_set {g o : Nat} {u : Value} (hn : a.block ≠ g ∧ b.block ≠ g ∧ c.block ≠ g) (h : w.cell? a = some x ∧ w.cell? b = some y ∧ w.cell? c = some z) : (w.setCell ⟨g, o, none⟩ u).cell? a = some x ∧ (w.setCell ⟨g, o, none⟩ u).cell? b = some y ∧ (w.setCell ⟨g, o, none⟩ u).cell? c = some z := by
  have hg := set_grown w g o u
  exact ⟨cell_grown hg h.1 (fun e => hn.1 (by injection e)), cell_grown hg h.2.1 (fun e => hn.2.1 (by injection e)), cell_grown hg h.2.2 (fun e => hn.2.2 (by injection e))⟩
end
def spec_cmHeaps.f (wide high : Int) : Option (List Int) := if (0 ≤ wide ∧ wide ≤ 6) ∧ 0 ≤ high ∧ high ≤ 6 then some (tb (allC wide.toNat high.toNat)) else none
set_option maxHeartbeats 8000000 in
set_option maxRecDepth 100000 in
theorem spec_cmHeaps.calls (a0 a1 : Int) (r : List Int) (w : World) (h : spec_cmHeaps.f a0 a1 = some r) :
    Calls Tryd.prog 38 #[.int .i64 a0, .int .i64 a1] w fun e w' => ∃ v0_ : Value, e = .returned (v0_) ∧ Kd.R (Kd.int .i64) 3 w' w.heap.size (fun _ => True) v0_ r ∧ Below w.heap.size w w' := by
  unfold spec_cmHeaps.f at h
  split at h
  case isFalse => cases h
  case isTrue hc =>
    injection h with h
    obtain ⟨L, hL⟩ : ∃ L, allC a0.toNat a1.toNat = L := ⟨_, rfl⟩
    have hall := fun W => spec_cmAll.calls a0 a1 L W (by unfold spec_cmAll.f; rw [if_pos hc, hL])
    have hnx : ∀ (i : Nat) (hi : i < L.length) (m : List Int), m ∈ mv L[i] → nx L[i] m ∈ L.take i := by
      subst hL
      exact fun i hi m hm => nx_take (by omega) (by omega) hi hm
    have hok : ∀ x ∈ L, ok6 x := by
      subst hL
      exact fun x hx => all_ok6 (by omega) (by omega) hx
    have hsrt : L.Pairwise (fun a b => kv a < kv b) := by
      subst hL
      exact all_sorted (by omega) (by omega)
    have hlen : L.length ≤ 117649 := by
      subst hL
      exact all_len (by omega) (by omega)
    rw [hL] at h
    have HH := Aside0.mk h
    have HALL := Aside0.mk hall
    have HNX := Aside0.mk hnx
    have HOK := Aside0.mk hok
    have HSRT := Aside0.mk hsrt
    clear h hall hnx hok hsrt hL hc
    go_enter Tryd.func38, Tryd.ntmps38
    go_wp2_with (first
      | ((with_reducible refine gate_dst (N := 12) rfl ?_); refine Kd.R_make KI (w0 := w) w.heap.size 3 rfl (N := 12) rfl 22 _ _ rfl 117649 rfl rfl Tryd.underlying22 (.int .i64 0) 8 info3 rfl (by decide) (by decide) 0 (ok := fun _ => True) (okp := fun _ => True) rfl (fun _ hk => hk) trivial (by decide) (by decide) (Below.refl _ _) (Nat.le_refl _) ?_; intro v12 w1 hr hb hg hn; have HR1 := Aside0.mk hr; have HB1 := Aside0.mk hb; clear hr hb hg hn)
      | (go_at_call 39; refine (HALL.out _).mono ?_; rintro e w2 ⟨v15, rfl, hs2, hb2⟩; obtain ⟨A15, c15, rfl⟩ := Kd.S_slice hs2; have HS2 := Aside0.mk hs2; have HB2 := Aside0.mk hb2; clear hs2 hb2))
    obtain ⟨base1, hb1⟩ : ∃ B, w1.heap.size = B := ⟨_, rfl⟩
    have hbb : w.heap.size ≤ base1 := by rw [← hb1]; exact HB1.out.size
    have HBS : Aside0 (base1 ≤ w2.heap.size) := ⟨by rw [← hb1]; exact HB2.out.size⟩
    have HTB : Aside0 (KI.R 3 w2 w.heap.size (fun k => k < base1) v12 (tb (L.take 0))) := ⟨Kd.R_below (Kd.R_mono (Kd.R_bound HR1.out) (fun k hk => by rw [← hb1]; exact hk.2.2.1)) HB2.out⟩
    have HLS : Aside0 (Kd.S KL 22 w2 base1 (fun _ => True) (.slice A15 L.length c15) L) := ⟨by rw [← hb1]; exact HS2.out⟩
    have HBW : Aside0 (Below w.heap.size w w2) := ⟨below_then HB1.out HB1.out.size HB2.out⟩
    obtain ⟨gt, ct, e12, hgt1, hgt2, _⟩ := Kd.R_form HTB.out (by rw [tb_len]; omega)
    rw [tb_len] at e12
    subst e12
    clear HR1 HB1 HS2 HB2 hb1
    go_loopg [17] L.length (fun gg s17 wr => ∃ i : Nat, i ≤ L.length ∧ L.length - i ≤ gg ∧ s17 = .int .i64 i ∧ Aside0 (KI.R 3 wr w.heap.size (fun k => k < base1) (.slice (some ⟨gt, 0, none⟩) 117649 ct) (tb (L.take i))) ∧ Aside0 (Kd.S KL 22 wr base1 (fun _ => True) (.slice A15 L.length c15) L) ∧ Aside0 (Below w.heap.size w wr) ∧ Aside0 (base1 ≤ wr.heap.size))
    case atStart => exact ⟨0, Nat.zero_le _, by omega, rfl, HTB, HLS, HBW, HBS⟩
    case round =>
      clear HTB HLS HBW HBS
      obtain ⟨i, hi, hgg, rfl, HTB, HLS, HBW, HBS⟩ := hrel
      by_cases hlt : i < L.length
      · have hltz : (i : Int) < (L.length : Int) := by omega
        have p0 : (0 : Int) ≤ (i : Int) := Int.natCast_nonneg i
        obtain ⟨g15, cap15, Ar, cr, e15, hx0, hcr, hrow⟩ := S_row HLS.out hlt
        injection e15 with e15 _ e15c
        subst e15; subst e15c
        have hnx := HNX.out i hlt
        have htk := fun m (hm : m ∈ L.take i) => tb_take HOK.out HSRT.out hm
        have hokl := HOK.out _ (List.getElem_mem hlt)
        have hsn : tb (L.take (i + 1)) = put (tb (L.take i)) L[i] := by rw [List.take_succ_eq_append_getElem hlt, tb_snoc]
        obtain ⟨l, hl⟩ : ∃ l, L[i] = l := ⟨_, rfl⟩
        rw [hl] at hx0 hcr hrow hnx hokl hsn
        have HSN := Aside0.mk hsn
        have HQ : Aside0 (∀ m, m ∈ mv l → (tb (L.take i)).getD (kv (nx l m)).toNat 0 = (fate (nx l m)).1 + 1) := ⟨fun m hm => htk _ (hnx m hm)⟩
        have HOKL := Aside0.mk hokl
        have HROW := Aside0.mk hrow
        have HCR := Aside0.mk hcr
        obtain ⟨km, hkm⟩ := (moves_ev hokl).rounds
        have HKM := Aside0.mk hkm
        have hml := mv_len hokl
        have hl6 := hokl.1
        have HLL := Aside0.mk hl
        clear hnx htk hokl hrow hcr hkm hl hsn
        go_wp2_with (first
          | ((with_reducible refine gate_dst (N := 21) rfl ?_); refine Kd.R_make Kd.bool (w0 := wr) wr.heap.size 4 rfl (N := 21) rfl 62 _ _ rfl 37 rfl rfl Tryd.underlying62 (.bool false) 1 info4 rfl (by decide) (by decide) false (ok := fun _ => True) (okp := fun _ => True) rfl (fun _ hk => hk) trivial (by decide) (by decide) (Below.refl _ _) (Nat.le_refl _) ?_; intro v21 w3 hr hb hg hn; have HR3 := Aside0.mk hr; have HB3 := Aside0.mk hb; clear hr hb hg hn)
          | (go_at_call 46; refine (spec_cmMoves.calls km Ar cr l (mv l) _ (Kd.C_below (Kd.R_reads' HROW.out).2.2 HB3.out) HCR.out HKM.out).mono ?_; rintro e w4 ⟨v23, rfl, hs4, hb4⟩; obtain ⟨A23, c23, rfl⟩ := Kd.S_slice hs4; have HS4 := Aside0.mk hs4; have HB4 := Aside0.mk hb4; clear hs4 hb4))
        have hseen : Kd.bool.R 4 w3 wr.heap.size (fun _ => True) v21 (seenL []) := by rw [seen_nil]; exact HR3.out
        obtain ⟨gs, cs, e21, hgs1, hgs2, _⟩ := Kd.R_form hseen (by rw [seen_len]; omega)
        rw [seen_len] at e21
        subst e21
        have HS0 : Aside0 (Hs w base1 (.slice (some ⟨gt, 0, none⟩) 117649 ct) (.slice (some ⟨g15, 0, none⟩) L.length c15) (.slice (some ⟨gs, 0, none⟩) 37 cs) (.slice A23 (mv l).length c23) (.slice Ar l.length cr) (tb (L.take i)) L l (seenL (((mv l).take 0).map (fun m => (fate (nx l m)).1))) (mv l) w4) := ⟨by
          have b34 := below_then HB3.out HB3.out.size HB4.out
          exact ⟨Kd.R_below HTB.out b34, Kd.S_below HLS.out b34, Kd.R_below (Kd.R_lower hseen HBS.out) HB4.out, Kd.S_lower HS4.out (Nat.le_trans HBS.out HB3.out.size), Kd.R_below HROW.out b34, below_then HBW.out HBW.out.size b34, Nat.le_trans HBS.out b34.size⟩⟩
        clear hseen HR3 HB3 HS4 HB4 HTB HLS HBW HBS HROW hx0 hgs1 hgs2
        generalize w4 = wq at HS0 ⊢
        go_loopg [25] (mv l).length (fun gg s25 wr => ∃ j : Nat, j ≤ (mv l).length ∧ (mv l).length - j ≤ gg ∧ s25 = .int .i64 j ∧ Aside0 (Hs w base1 (.slice (some ⟨gt, 0, none⟩) 117649 ct) (.slice (some ⟨g15, 0, none⟩) L.length c15) (.slice (some ⟨gs, 0, none⟩) 37 cs) (.slice A23 (mv l).length c23) (.slice Ar l.length cr) (tb (L.take i)) L l (seenL (((mv l).take j).map (fun m => (fate (nx l m)).1))) (mv l) wr))
        case atStart => exact ⟨0, Nat.zero_le _, by omega, rfl, HS0⟩
        case round =>
          clear HS0
          obtain ⟨j, hj, hgj, rfl, HS⟩ := hrel
          by_cases hltj : j < (mv l).length
          · have hltjz : (j : Int) < ((mv l).length : Int) := by omega
            have p0j : (0 : Int) ≤ (j : Int) := Int.natCast_nonneg j
            obtain ⟨g23, cap23, Am, cm, e23, hxm, hcm, hmr⟩ := S_row HS.out.mov hltj
            injection e23 with e23 _ e23c
            subst e23; subst e23c
            have hmem : (mv l)[j] ∈ mv l := List.getElem_mem hltj
            have hfs : ((mv l).take (j + 1)).map (fun m => (fate (nx l m)).1) = ((mv l).take j).map (fun m => (fate (nx l m)).1) ++ [(fate (nx l (mv l)[j])).1] := by rw [List.take_succ_eq_append_getElem hltj, List.map_append]; rfl
            obtain ⟨m, hm⟩ : ∃ m, (mv l)[j] = m := ⟨_, rfl⟩
            rw [hm] at hxm hcm hmr hmem hfs
            have hm2 : m.length = 2 := by obtain ⟨a, y, e, _⟩ := mv_mem hmem; rw [e]; rfl
            have hnxo := nx_ok HOKL.out hmem
            have hmm : ∃ (a : Int) (y : Nat), m = [a, (y : Int)] ∧ y < l.length ∧ 0 ≤ a ∧ a < rd l (y : Int) ∧ (a > 0 ∨ y > 0) := mv_mem hmem
            have hq := HQ.out m hmem
            have hfin := fate_in hnxo.1
            have hkv := kv_in hnxo.1
            have hbt : Ev (fun k => spec_cmBite.f k l (rd m 0) (rd m 1)) (nx l m) := by
              obtain ⟨a, y, rfl, hy, ha, _⟩ := hmm
              exact spec_bite HOKL.out ha (Int.natCast_nonneg y)
            obtain ⟨kb, hkb⟩ := hbt.rounds
            obtain ⟨kk, hkk⟩ := (key_ev hnxo.1).rounds
            rw [hm2] at hxm hcm hmr
            obtain ⟨gm, capm, em, hgm1, hgm2, cellsm, hgmc⟩ := Kd.R_form hmr (by omega)
            rw [hm2] at em
            injection em with em _ emc
            subst em; subst emc
            obtain ⟨hy0, _⟩ := Kd.R_celln (0 : Int) hmr 0 (by omega) (by omega)
            obtain ⟨hy1, _⟩ := Kd.R_celln (0 : Int) hmr 1 (by omega) (by omega)
            obtain ⟨hz0, _⟩ := Kd.R_celln (0 : Int) HS.out.tab (kv (nx l m)) hkv.1 (by have := hkv.2; omega)
            obtain ⟨gsc, hgsc⟩ := Kd.R_typed HS.out.see gs (by simp [Value.ownBlock])
            obtain ⟨gtc, hgtc⟩ := Kd.R_typed HS.out.tab gt (by simp [Value.ownBlock])
            have hne1 : gm ≠ gs := blk_ne hgmc hgsc (by decide)
            have hne2 : gt ≠ gs := blk_ne hgtc hgsc (by decide)
            have e0 : rdOf (0 : Int) m 0 = rd m 0 := rfl
            have e1 : rdOf (0 : Int) m 1 = rd m 1 := rfl
            have e2 : rdOf (0 : Int) (tb (L.take i)) (kv (nx l m)) = (fate (nx l m)).1 + 1 := hq
            rw [e0] at hy0
            rw [e1] at hy1
            rw [e2] at hz0
            simp only [Int.reduceToNat] at hy0 hy1
            obtain ⟨q, hqq⟩ : ∃ q, nx l m = q := ⟨_, rfl⟩
            rw [hqq] at hz0 hkb hkk hfin hkv hnxo hfs
            obtain ⟨fq, hfq⟩ : ∃ fq : Nat, (fate q).1 = fq := ⟨(fate q).1.toNat, by omega⟩
            rw [hfq] at hz0 hfin hfs
            have hf37 : fq < 37 := by omega
            obtain ⟨hs0, hsf0⟩ := Kd.R_celln false HS.out.see (fq : Int) (by omega) (by omega)
            simp only [Int.toNat_natCast] at hs0 hsf0
            obtain ⟨x, hx⟩ : ∃ x, rd m 0 = x := ⟨_, rfl⟩
            obtain ⟨y, hy⟩ : ∃ y, rd m 1 = y := ⟨_, rfl⟩
            rw [hx] at hy0 hkb
            rw [hy] at hy1 hkb
            obtain ⟨kq, hkq⟩ : ∃ kq : Nat, kv q = kq := ⟨(kv q).toNat, by omega⟩
            rw [hkq] at hkk hz0 hkv
            simp only [Int.toNat_natCast] at hz0
            obtain ⟨bq, hbq⟩ : ∃ bq, rdOf false (seenL (((mv l).take j).map (fun m => (fate (nx l m)).1))) (fq : Int) = bq := ⟨_, rfl⟩
            rw [hbq] at hs0
            obtain ⟨tv, htv⟩ : ∃ tv, (fq : Int) + 1 = tv := ⟨_, rfl⟩
            have hsub : IntKind.i64.wrap (tv - 1) = (fq : Int) := by rw [← htv, IntWalk.i64_in _ (by omega)]; omega
            rw [htv] at hz0
            have hk0 : (0 : Int) ≤ (kq : Int) := Int.natCast_nonneg _
            have hk1 : (kq : Int) < 117649 := by omega
            have hf0 : (0 : Int) ≤ (fq : Int) := Int.natCast_nonneg _
            have hf1 : (fq : Int) < 37 := by omega
            have HNE : Aside0 (gm ≠ gs ∧ gm ≠ gs ∧ gt ≠ gs) := ⟨⟨hne1, hne1, hne2⟩⟩
            have HKB := Aside0.mk hkb
            have HKK := Aside0.mk hkk
            have HFS := Aside0.mk hfs
            have HSE := Aside0.mk (And.intro hs0 hsf0)
            have HL6Q := Aside0.mk hnxo.1.1
            have hbl : gs < wr.heap.size := World.block_lt_of_cell? _ _ hs0
            have HBL := Aside0.mk hbl
            have hll : l.length ≤ cr := HCR.out
            clear hmem hm hm2 hnxo hmm hq hfin hkv hbt hkb hkk hmr hgm1 hgm2 hgmc hgsc hgtc hne1 hne2 e0 e1 e2 hqq hfq hx hy hkq hbq hs0 hsf0 hfs hbl htv
            go_wp2
            have s0 := three_below (w2 := wr.drew) (And.intro hy0 (And.intro hy1 hz0)) (below_drew (Below.refl _ _))
            have HD0 : Aside0 (Below wr.heap.size wr wr.drew) := ⟨below_drew (Below.refl _ _)⟩
            clear hy0 hy1 hz0 hxm
            go_region_held3 (fun w' => w'.cell? ⟨gm, 0, none⟩ = some (.int .i64 x) ∧ w'.cell? ⟨gm, 1, none⟩ = some (.int .i64 y) ∧ w'.cell? ⟨gt, kq, none⟩ = some (.int .i64 tv)) (first | assumption | exact three_set HNE.out (by assumption))
              (first
                | (go_at_call 47; refine (spec_cmBite.calls kb Ar cr l x y q _ (Kd.R_reads' (Kd.R_drew HS.out.row)).2.2 hll HKB.out).mono ?_; rintro e w5 ⟨v5, rfl, hr5, hb5⟩; obtain ⟨A5, c5, rfl⟩ := Kd.R_slice hr5; have HR5 := Aside0.mk hr5; have HB5 : Aside0 (Below wr.heap.size wr w5) := ⟨HD0.out.trans hb5⟩; have s5 := three_below s0 hb5; clear hr5 hb5)
                | (go_at_call 40; refine (spec_cmKey.calls kk A5 c5 q (kq : Int) _ (Kd.R_reads' HR5.out).2.2 (Kd.R_reads' HR5.out).2.1 HKK.out).mono ?_; rintro e w6 ⟨rfl, ⟨nd, rfl⟩⟩; have s6 : (w5.drewN nd).cell? ⟨gm, 0, none⟩ = some (.int .i64 x) ∧ (w5.drewN nd).cell? ⟨gm, 1, none⟩ = some (.int .i64 y) ∧ (w5.drewN nd).cell? ⟨gt, kq, none⟩ = some (.int .i64 tv) := s5; have t6 : (w5.drewN nd).cell? ⟨gs, fq, none⟩ = some (.bool bq) := (HB5.out.cell (p := ⟨gs, fq, none⟩) HBL.out).trans HSE.out.1; have f6 : (w5.drewN nd).frozen? ⟨gs, fq, none⟩ = false := (HB5.out.frozen (p := ⟨gs, fq, none⟩) HBL.out).trans HSE.out.2))
            all_goals (try go_wp2_with fail)
            all_goals go_roundg ((mv l).length - (j + 1))
            all_goals first
              | omega
              | exact ⟨j + 1, by omega, by omega, by go_num, ⟨by rw [HFS.out, ← seen_put _ hf37]; exact (HS.out.below (HB5.out.trans (pw_below_drewN (Below.refl _ _) nd))).store hbb true⟩⟩
          · obtain rfl : j = (mv l).length := by omega
            obtain ⟨fs, hfs⟩ : ∃ fs, ((mv l).map (fun m => (fate (nx l m)).1)) = fs := ⟨_, rfl⟩
            have HS1 : Aside0 (Hs w base1 (.slice (some ⟨gt, 0, none⟩) 117649 ct) (.slice (some ⟨g15, 0, none⟩) L.length c15) (.slice (some ⟨gs, 0, none⟩) 37 cs) (.slice A23 (mv l).length c23) (.slice Ar l.length cr) (tb (L.take i)) L l (seenL fs) (mv l) wr) := ⟨by
              have := HS.out
              rw [List.take_of_length_le (Nat.le_refl _), hfs] at this
              exact this⟩
            have hfl : fs.length ≤ 36 := by rw [← hfs, List.length_map]; exact hml
            obtain ⟨V, hV, hmx, hVn, hVin⟩ := mex_ex fs (by omega)
            have HFT : Aside0 ((fate l).1 = (V : Int)) := ⟨by
              rw [fate_eq HOKL.out]
              show mex _ = _
              rw [← hmx, ← hfs, List.map_map]
              rfl⟩
            have HVn : Aside0 (rdOf false (seenL fs) (V : Int) = false) := ⟨by
              show (seenL fs).getD ((V : Int).toNat) false = false
              rw [Int.toNat_natCast, seen_at fs (by omega)]
              exact decide_eq_false hVn⟩
            have HVi : Aside0 (∀ v : Nat, v < V → rdOf false (seenL fs) (v : Int) = true) := ⟨fun v hv => by
              show (seenL fs).getD ((v : Int).toNat) false = true
              rw [Int.toNat_natCast, seen_at fs (by omega)]
              exact decide_eq_true (hVin v hv)⟩
            clear HS hgj hfs hmx hVn hVin hj
            go_wp2
            go_loopg [11] V (fun gg s11 wr => ∃ v : Nat, v ≤ V ∧ V - v ≤ gg ∧ s11 = .int .i64 v ∧ Aside0 (Hs w base1 (.slice (some ⟨gt, 0, none⟩) 117649 ct) (.slice (some ⟨g15, 0, none⟩) L.length c15) (.slice (some ⟨gs, 0, none⟩) 37 cs) (.slice A23 (mv l).length c23) (.slice Ar l.length cr) (tb (L.take i)) L l (seenL fs) (mv l) wr))
            case atStart => exact ⟨0, Nat.zero_le _, by omega, rfl, HS1⟩
            case round =>
              clear HS1
              obtain ⟨v, hvV, hgv, rfl, HSv⟩ := hrel
              have hv0 : (0 : Int) ≤ (v : Int) := Int.natCast_nonneg _
              have hv1 : (v : Int) < 37 := by omega
              obtain ⟨hs0, _⟩ := Kd.R_celln false HSv.out.see (v : Int) (by omega) (by omega)
              simp only [Int.toNat_natCast] at hs0
              by_cases hvl : v < V
              · rw [HVi.out v hvl] at hs0
                go_wp2
                go_roundg (V - (v + 1))
                case measure => omega
                case rel => exact ⟨v + 1, by omega, by omega, by go_num, HSv⟩
              · obtain rfl : v = V := by omega
                rw [HVn.out] at hs0
                obtain ⟨kk, hkk⟩ := (key_ev HOKL.out).rounds
                have hkv := kv_in HOKL.out
                obtain ⟨kq, hkq⟩ : ∃ kq : Nat, kv l = kq := ⟨(kv l).toNat, by omega⟩
                rw [hkq] at hkk hkv
                obtain ⟨hz0, hzf⟩ := Kd.R_celln (0 : Int) HSv.out.tab (kq : Int) (by omega) (by omega)
                simp only [Int.toNat_natCast] at hz0 hzf
                obtain ⟨z, hz⟩ : ∃ z, rdOf (0 : Int) (tb (L.take i)) (kq : Int) = z := ⟨_, rfl⟩
                rw [hz] at hz0
                have hk0 : (0 : Int) ≤ (kq : Int) := Int.natCast_nonneg _
                have hk1 : (kq : Int) < 117649 := by omega
                have HKK := Aside0.mk hkk
                have HKQ := Aside0.mk hkq
                have hll : l.length ≤ cr := HCR.out
                clear hkk hkq hkv hz
                go_wp2_with (go_at_call 40; refine (spec_cmKey.calls kk Ar cr l (kq : Int) _ (Kd.R_reads' HSv.out.row).2.2 hll HKK.out).mono ?_; rintro e w6 ⟨rfl, ⟨nd, rfl⟩⟩; have t6 : (wr.drewN nd).cell? ⟨gt, kq, none⟩ = some (.int .i64 z) := hz0; have f6 : (wr.drewN nd).frozen? ⟨gt, kq, none⟩ = false := hzf)
                go_roundg (L.length - (i + 1))
                case measure => omega
                case rel =>
                  have hst := tab_store (x := kq) (Kd.R_drewN HSv.out.tab nd) (Kd.S_drewN HSv.out.lst nd) (pw_below_drewN HSv.out.bel nd) ((v : Int) + 1)
                  refine ⟨i + 1, by omega, by omega, by go_num, ⟨?_⟩, ⟨hst.2.1⟩, ⟨hst.2.2⟩, ⟨by simpa [World.setCell] using HSv.out.le⟩⟩
                  rw [HSN.out]
                  unfold put
                  rw [HFT.out, HKQ.out, Int.toNat_natCast]
                  exact hst.1
      · obtain rfl : i = L.length := by omega
        go_wp2
        go_ret
        refine ⟨_, rfl, ?_, HBW.out⟩
        have h1 := HTB.out
        rw [List.take_of_length_le (Nat.le_refl _), HH.out] at h1
        exact Kd.R_mono h1 (fun _ _ => trivial)
end Go.Proofs.YtnmibkkchgagbaaDoor.All
