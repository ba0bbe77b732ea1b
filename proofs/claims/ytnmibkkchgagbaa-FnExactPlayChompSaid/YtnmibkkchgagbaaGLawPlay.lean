/- The law FnExactPlayChomp answers true where the functions that it calls answer as said: a walk through the law. Conditions: the answers, as hypotheses. -/
import Derived.Test.YtnmibkkchgagbaaAx2
import Derived.Test.YtnmibkkchgagbaaAx4
import Derived.Test.YtnmibkkchgagbaaAx6
import Derived.Test.YtnmibkkchgagbaaGMark
namespace Go.Proofs.Ytnmibkkchgagbaa.All
open Go.RowKit Go.Proofs.YtnmibkkchgagbaaW.PrintWords Go.Proofs.YtnmibkkchgagbaaW.PrintLast Go.Proofs.YtnmibkkchgagbaaW.PrintMore Go.Shelf
set_option linter.unusedVariables false
set_option linter.unusedSimpArgs false

/-- What the law's helpers answer, all at once. -/
structure PlayAns (k : Nat) (l0 : List Int) (l1 : List (List Int)) (left : Int) (R : List Int) (b : Bool) (k1 : Int) (y1 : List Int) (k2 : Int) (Y1 : List (List Int)) (m : Int) (R2 : List Int) : Prop where
  sz : laws_szIntSS.f k l1 1048576 = some left
  nl : 0 ≤ left
  cp : laws_toIntS.f k l0 = some l0
  cps : laws_toIntSS.f k l1 = some l1
  sp : spec_PlayChomp.f k l0 l1 = some (R, b)
  im : impl_PlayChomp.f k l0 l1 = some (R, b)
  eqr : laws_eqIntS.f k R R = some true
  eq0 : laws_eqIntS.f k l0 l0 = some true
  eq1 : laws_eqIntSS.f k l1 l1 = some true
  mk0 : laws_markIntS.f k l0 1 = some (k1, y1)
  mk1 : laws_markIntSS.f k l1 k1 = some (k2, Y1)
  mkr : laws_markIntS.f k R 1 = some (m, R2)
  held : laws_heldIntS.f k R2 1 = some m
  n2 : 0 ≤ k2
  nm : 0 ≤ m

set_option maxHeartbeats 4000000 in
set_option maxRecDepth 100000 in
theorem laws_FnExactPlayChomp.long (A0 : Option Addr) (c0 : Nat) (l0 : List Int) (A1 : Option Addr) (c1 : Nat) (l1 : List (List Int)) (w : World) (hlen : (l0.length : Int) > 1048576) :
    Calls Try.prog 3 #[.slice A0 l0.length c0, .slice A1 l1.length c1] w fun e w' => e = .returned (.bool true) ∧ Below w.heap.size w w' := by
  go_enter Try.func3, Try.ntmps3
  go_wp2
  go_ret
  exact ⟨rfl, Below.refl _ _⟩
set_option maxHeartbeats 4000000 in
set_option maxRecDepth 100000 in
theorem laws_FnExactPlayChomp.many (k : Nat) (A0 : Option Addr) (c0 : Nat) (l0 : List Int) (A1 : Option Addr) (c1 : Nat) (l1 : List (List Int)) (left : Int) (w : World) (hr1 : Kd.C (Kd.slice 3 (Kd.int .i64)) w A1 l1.length l1) (hc1 : l1.length ≤ c1) (hlen : ¬ (l0.length : Int) > 1048576) (h : laws_szIntSS.f k l1 1048576 = some left) (hn : left < 0) :
    Calls Try.prog 3 #[.slice A0 l0.length c0, .slice A1 l1.length c1] w fun e w' => e = .returned (.bool true) ∧ Below w.heap.size w w' := by
  have hsz := laws_szIntSS.calls k A1 c1 l1 1048576 left w hr1 hc1 h
  clear hr1
  go_enter Try.func3, Try.ntmps3
  go_wp2_with (go_at_call 4; refine hsz.mono ?_; rintro e w1 ⟨rfl, ⟨⟨n1, rfl⟩⟩⟩)
  go_ret
  exact ⟨rfl, pw_below_drewN (Below.refl _ _) _⟩

set_option maxHeartbeats 8000000 in
set_option maxRecDepth 100000 in
theorem laws_FnExactPlayChomp.calls (k : Nat) (A0 : Option Addr) (c0 : Nat) (l0 : List Int) (A1 : Option Addr) (c1 : Nat) (l1 : List (List Int)) (left : Int) (R : List Int) (b : Bool) (k1 : Int) (y1 : List Int) (k2 : Int) (Y1 : List (List Int)) (m : Int) (R2 : List Int) (w : World)
    (hr0 : Kd.C (Kd.int .i64) w A0 l0.length l0) (hc0 : l0.length ≤ c0) (hr1 : Kd.C (Kd.slice 3 (Kd.int .i64)) w A1 l1.length l1) (hc1 : l1.length ≤ c1) (hlen : ¬ (l0.length : Int) > 1048576) (h : PlayAns k l0 l1 left R b k1 y1 k2 Y1 m R2) :
    Calls Try.prog 3 #[.slice A0 l0.length c0, .slice A1 l1.length c1] w fun e w' => e = .returned (.bool true) ∧ Below w.heap.size w w' := by
  have hsz := laws_szIntSS.calls k A1 c1 l1 1048576 left w hr1 hc1 h.sz
  have hto := fun W (hW : Below w.heap.size w W) => laws_toIntS.calls k A0 c0 l0 l0 W (Kd.C_below hr0 hW) hc0 h.cp
  have hts := fun W (hW : Below w.heap.size w W) => laws_toIntSS.calls k A1 c1 l1 l1 W (Kd.C_below hr1 hW) hc1 h.cps
  have H := Aside0.mk h
  have hn0 : decide (left < 0) = false := decide_eq_false (by have := h.nl; omega)
  have hn1 : decide (k2 < 0) = false := decide_eq_false (by have := h.n2; omega)
  have hn2 : decide (m < 0) = false := decide_eq_false (by have := h.nm; omega)
  clear h hr0 hr1
  have t1 := True.intro
  have t2 := True.intro
  have t3 := True.intro
  have t4 := True.intro
  have t5 := True.intro
  have t6 := True.intro
  have t7 := True.intro
  have t8 := True.intro
  have t9 := True.intro
  have t10 := True.intro
  have t11 := True.intro
  have t12 := True.intro
  have t13 := True.intro
  have t14 := True.intro
  have t15 := True.intro
  have t16 := True.intro
  have t17 := True.intro
  have t18 := True.intro
  have t19 := True.intro
  have t20 := True.intro
  have t21 := True.intro
  have t22 := True.intro
  go_enter Try.func3, Try.ntmps3
  go_wp2_with (first
    | (go_at_call 4; clear t1; refine hsz.mono ?_; rintro e w1 ⟨rfl, ⟨⟨n1, rfl⟩⟩⟩; have HB1 := Aside0.mk (pw_below_drewN (Below.refl w.heap.size w) n1))
    | (go_at_call 6; clear t2; refine (hto _ HB1.out).mono ?_; rintro e w2 ⟨v2, rfl, hr2, hb2⟩; obtain ⟨A2, d2, rfl, hd2, hC2⟩ := Kd.R_reads hr2; have HC2 := Aside0.mk hC2; have HB2 := Aside0.mk (below_then HB1.out HB1.out.size hb2); clear hr2 hb2 hC2)
    | (go_at_call 7; clear t3; refine (hts w2 HB2.out).mono ?_; rintro e w3 ⟨v3, rfl, hr3, hb3⟩; obtain ⟨A3, d3, rfl, hd3, hC3⟩ := Kd.S_reads hr3; have HC3 := Aside0.mk hC3; have HC2b := Aside0.mk (Kd.C_below HC2.out hb3); have HB3 := Aside0.mk (below_then HB2.out HB2.out.size hb3); clear hr3 hb3 hC3)
    | (go_at_call 5; clear t4; refine (spec_PlayChomp.calls k A2 d2 l0 A3 d3 l1 R b w3 HC2b.out hd2 HC3.out hd3 H.out.sp).mono ?_; rintro e w4 ⟨v4, rfl, hr4, hb4⟩; obtain ⟨A4, d4, rfl, hd4, _⟩ := Kd.R_reads hr4; have HR4 := Aside0.mk (Kd.R_mono (Kd.R_old hr4 (Below.refl _ _)) (fun _ hk => hk.2)); have HB4 := Aside0.mk (below_then HB3.out HB3.out.size hb4); clear hr4 hb4)
    | (go_at_call 6; clear t5; refine (hto w4 HB4.out).mono ?_; rintro e w5 ⟨v5, rfl, hr5, hb5⟩; obtain ⟨A5, d5, rfl, hd5, hC5⟩ := Kd.R_reads hr5; have HR5 := Aside0.mk hr5; have HC5 := Aside0.mk hC5; have HR45 := Aside0.mk (Kd.R_below HR4.out hb5); have HB5 := Aside0.mk (below_then HB4.out HB4.out.size hb5); have HZ5 := Aside0.mk hb5.size; clear hr5 hb5 hC5)
    | (go_at_call 7; clear t6; refine (hts w5 HB5.out).mono ?_; rintro e w6 ⟨v6, rfl, hr6, hb6⟩; obtain ⟨A6, d6, rfl, hd6, hC6⟩ := Kd.S_reads hr6; have HS6 := Aside0.mk (Kd.S_mono (ok' := fun k_ => w5.heap.size ≤ k_ ∧ k_ < w6.heap.size) (Kd.S_bound hr6) (fun _ hk => ⟨hk.2.1, hk.2.2.1⟩)); have HC6 := Aside0.mk hC6; have HC56 := Aside0.mk (Kd.C_below HC5.out hb6); have HR56 := Aside0.mk (Kd.R_below HR5.out hb6); have HR46 := Aside0.mk (Kd.R_below HR45.out hb6); have HB6 := Aside0.mk (below_then HB5.out HB5.out.size hb6); have HZ6 := Aside0.mk hb6.size; clear hr6 hb6 hC6)
    | (go_at_call 8; clear t7; refine (impl_PlayChomp.calls k A5 d5 l0 A6 d6 l1 R b w6 HC56.out hd5 HC6.out hd6 H.out.im).mono ?_; rintro e w7 ⟨v7, rfl, hr7, hb7⟩; obtain ⟨A7, d7, rfl, hd7, _⟩ := Kd.R_reads hr7; have HR7 := Aside0.mk hr7; have HR47 := Aside0.mk (Kd.R_below HR46.out hb7); have HR57 := Aside0.mk (Kd.R_below HR56.out hb7); have HS67 := Aside0.mk (Kd.S_below HS6.out hb7); have HB7 := Aside0.mk (below_then HB6.out HB6.out.size hb7); clear hr7 hb7)
    | (go_at_call 9; clear t8; refine (laws_eqIntS.calls k A7 d7 R A4 d4 R true w7 (Kd.R_reads' HR7.out).2.2 hd7 (Kd.R_reads' HR47.out).2.2 hd4 H.out.eqr).mono ?_; rintro e w8 ⟨rfl, ⟨⟨n8, rfl⟩⟩⟩)
    | (go_at_call 6; clear t9; refine (hto (w7.drewN n8) (pw_below_drewN HB7.out n8)).mono ?_; rintro e w9 ⟨v9, rfl, hr9, hb9⟩; obtain ⟨A9, d9, rfl, hd9, hC9⟩ := Kd.R_reads hr9; have HC9 := Aside0.mk hC9; have B79 := Aside0.mk (below_then (pw_below_drewN (Below.refl w7.heap.size w7) n8) (Nat.le_refl _) hb9); clear hr9 hb9 hC9)
    | (go_at_call 9; clear t10; refine (laws_eqIntS.calls k A5 d5 l0 A9 d9 l0 true w9 (Kd.R_reads' (Kd.R_below HR57.out B79.out)).2.2 hd5 HC9.out hd9 H.out.eq0).mono ?_; rintro e wa ⟨rfl, ⟨⟨na, rfl⟩⟩⟩)
    | (go_at_call 7; clear t11; refine (hts (w9.drewN na) (pw_below_drewN (below_then HB7.out HB7.out.size B79.out) na)).mono ?_; rintro e wb ⟨vb, rfl, hrb, hbb⟩; obtain ⟨Ab, db, rfl, hdb, hCb⟩ := Kd.S_reads hrb; have HCb := Aside0.mk hCb; have B7b := Aside0.mk (below_then (pw_below_drewN B79.out na) B79.out.size hbb); clear hrb hbb hCb)
    | (go_at_call 10; clear t12; refine (laws_eqIntSS.calls k A6 d6 l1 Ab db l1 true wb (Kd.S_reads' (Kd.S_below HS67.out B7b.out)).2.2 hd6 HCb.out hdb H.out.eq1).mono ?_; rintro e wc ⟨rfl, ⟨⟨nc, rfl⟩⟩⟩; have HBc := Aside0.mk (pw_below_drewN (below_then HB7.out HB7.out.size B7b.out) nc); have B7c := Aside0.mk (pw_below_drewN B7b.out nc))
    | (go_at_call 11; clear t13; refine (laws_markIntS.calls k (fun k_ => some k_ = (Value.slice A5 l0.length d5).ownBlock) (.slice A5 l0.length d5) l0 1 k1 y1 w (wb.drewN nc) HBc.out (Kd.R_lower (Kd.R_tight rfl (Kd.R_below HR57.out B7c.out)) HB4.out.size) H.out.mk0).mono ?_; rintro e wd ⟨rfl, _, hbd, hkd⟩; have HBd := Aside0.mk hbd; have HR4d := Aside0.mk (Kd.R_kept (Kd.R_below HR47.out B7c.out) hkd (fun k_ hk he => by have := Kd.R_base HR5.out k_ he.symm; omega)); have HS6d := Aside0.mk (Kd.S_kept (Kd.S_below HS67.out B7c.out) hkd (fun k_ hk he => by have := Kd.R_lt HR5.out k_ he.symm; omega)); have HR7d := Aside0.mk (Kd.R_kept (Kd.R_below (Kd.R_mono (ok' := fun k_ => w6.heap.size ≤ k_) (Kd.R_bound HR7.out) (fun _ hk => hk.2.1)) B7c.out) hkd (fun k_ hk he => by have := Kd.R_lt HR5.out k_ he.symm; have := HZ6.out; omega)); clear hbd hkd)
    | (go_at_call 12; clear t14; refine (laws_markIntSS.calls k (fun k_ => w5.heap.size ≤ k_ ∧ k_ < w6.heap.size) (.slice A6 l1.length d6) l1 k1 k2 Y1 w wd HBd.out (Kd.S_lower HS6d.out HB5.out.size) H.out.mk1).mono ?_; rintro e we ⟨rfl, _, hbe, hke⟩; have HBe := Aside0.mk hbe; have HR4e := Aside0.mk (Kd.R_kept HR4d.out hke (fun k_ hk he => by have := HZ5.out; omega)); have HR7e := Aside0.mk (Kd.R_kept HR7d.out hke (fun k_ hk he => by omega)); clear hbe hke)
    | (go_at_call 9; clear t15; refine (laws_eqIntS.calls k A7 d7 R A4 d4 R true we (Kd.R_reads' HR7e.out).2.2 hd7 (Kd.R_reads' HR4e.out).2.2 hd4 H.out.eqr).mono ?_; rintro e wf ⟨rfl, ⟨⟨nf, rfl⟩⟩⟩)
    | (go_at_call 11; clear t16; refine (laws_markIntS.calls k (fun k_ => w6.heap.size ≤ k_) (.slice A7 R.length d7) R 1 m R2 w (we.drewN nf) (pw_below_drewN HBe.out nf) (Kd.R_lower (Kd.R_drewN HR7e.out nf) HB6.out.size) H.out.mkr).mono ?_; rintro e wg ⟨rfl, hrg, hbg, hkg⟩; have HBg := Aside0.mk hbg; have HRg := Aside0.mk hrg; have HLg := Aside0.mk (Kd.R_reads' hrg).1; have HR4g := Aside0.mk (Kd.R_kept (Kd.R_drewN HR4e.out nf) hkg (fun k_ hk he => by have := HZ5.out; have := HZ6.out; omega)); clear hrg hbg hkg)
    | (go_at_call 13; clear t17; have hcc := laws_heldIntS.calls k A7 d7 R2 1 m wg (Kd.R_reads' HRg.out).2.2 (by have := HLg.out; omega) H.out.held; rw [← HLg.out] at hcc; refine hcc.mono ?_; clear hcc; rintro e wh ⟨rfl, ⟨⟨nh, rfl⟩⟩⟩)
    | (go_at_call 6; clear t18; refine (hto (wg.drewN nh) (pw_below_drewN HBg.out nh)).mono ?_; rintro e wi ⟨vi, rfl, hri, hbi⟩; obtain ⟨Ai, di, rfl, hdi, hCi⟩ := Kd.R_reads hri; have HCi := Aside0.mk hCi; have Bgi := Aside0.mk (below_then (pw_below_drewN (Below.refl wg.heap.size wg) nh) (Nat.le_refl _) hbi); clear hri hbi hCi)
    | (go_at_call 7; clear t19; refine (hts wi (below_then HBg.out HBg.out.size Bgi.out)).mono ?_; rintro e wj ⟨vj, rfl, hrj, hbj⟩; obtain ⟨Aj, dj, rfl, hdj, hCj⟩ := Kd.S_reads hrj; have HCj := Aside0.mk hCj; have HCij := Aside0.mk (Kd.C_below HCi.out hbj); have Bgj := Aside0.mk (below_then Bgi.out Bgi.out.size hbj); clear hrj hbj hCj)
    | (go_at_call 8; clear t20; refine (impl_PlayChomp.calls k Ai di l0 Aj dj l1 R b wj HCij.out hdi HCj.out hdj H.out.im).mono ?_; rintro e wk ⟨vk, rfl, hrk, hbk⟩; obtain ⟨Ak, dk, rfl, hdk, hCk⟩ := Kd.R_reads hrk; have HCk := Aside0.mk hCk; have Bgk := Aside0.mk (below_then Bgj.out Bgj.out.size hbk); clear hrk hbk hCk)
    | (go_at_call 9; clear t21; refine (laws_eqIntS.calls k Ak dk R A4 d4 R true wk HCk.out hdk (Kd.R_reads' (Kd.R_below HR4g.out Bgk.out)).2.2 hd4 H.out.eqr).mono ?_; rintro e wl ⟨rfl, ⟨⟨nl, rfl⟩⟩⟩)
    | (go_at_call 13; clear t22; have hcc := laws_heldIntS.calls k A7 d7 R2 1 m (wk.drewN nl) (Kd.R_reads' (Kd.R_drewN (Kd.R_below HRg.out Bgk.out) nl)).2.2 (by have := HLg.out; omega) H.out.held; rw [← HLg.out] at hcc; refine hcc.mono ?_; clear hcc; rintro e wm ⟨rfl, ⟨⟨nm, rfl⟩⟩⟩))
  go_ret
  exact ⟨rfl, pw_below_drewN (below_then HBg.out HBg.out.size Bgk.out) _⟩
end Go.Proofs.Ytnmibkkchgagbaa.All
