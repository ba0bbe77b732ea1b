/- The laws FnExactGoodChomps and FnExactLostChomps answer true where the functions that they call answer as said: walks through the laws. Conditions: the answers, as hypotheses. -/
import Derived.Test.YtnmibkkchgagbaaDoorGLost
import Derived.Test.YtnmibkkchgagbaaDoorGMark
namespace Go.Proofs.YtnmibkkchgagbaaDoor.All
open Go.RowKit Go.Proofs.YtnmibkkchgagbaaDoorW.PrintWords Go.Proofs.YtnmibkkchgagbaaDoorW.PrintLast Go.Proofs.YtnmibkkchgagbaaDoorW.PrintMore Go.Shelf
set_option linter.unusedVariables false
set_option linter.unusedSimpArgs false

theorem S_tail {d : Kd (List Int)} {e : Nat} {w1 W : World} {base : Nat} {v : Value} {xs : List (List Int)} {ok : Nat → Prop} (h : Kd.S d e w1 base ok v xs) (hb : Below w1.heap.size w1 W) : Kd.S d e W base (fun k => k < w1.heap.size) v xs :=
  Kd.S_mono (Kd.S_old h hb) (fun _ hk => hk.2)

/-- What the law's helpers answer, all at once. -/
structure GoodAns (k : Nat) (l0 : List Int) (R : List (List Int)) (b : Bool) (m1 : Int) (y1 : List Int) (m2 : Int) (R2 : List (List Int)) : Prop where
  cp : laws_toIntS.f k l0 = some l0
  sp : spec_GoodChomps.f l0 = some (R, b)
  im : impl_GoodChomps.f l0 = some (R, b)
  eqs : laws_eqIntSS.f k R R = some true
  eq1 : laws_eqIntS.f k l0 l0 = some true
  mk1 : laws_markIntS.f k l0 1 = some (m1, y1)
  mk2 : laws_markIntSS.f k R 1 = some (m2, R2)
  held : laws_heldIntSS.f k R2 1 = some m2
  n1 : 0 ≤ m1
  n2 : 0 ≤ m2

set_option maxHeartbeats 4000000 in
set_option maxRecDepth 100000 in
theorem laws_FnExactGoodChomps.long (A0 : Option Addr) (c0 : Nat) (l0 : List Int) (w : World) (hlen : (l0.length : Int) > 1048576) :
    Calls Tryd.prog 10 #[.slice A0 l0.length c0] w fun e w' => e = .returned (.bool true) ∧ Below w.heap.size w w' := by
  go_enter Tryd.func10, Tryd.ntmps10
  go_wp2
  go_ret
  exact ⟨rfl, Below.refl _ _⟩

set_option maxHeartbeats 4000000 in
set_option maxRecDepth 100000 in
theorem laws_FnExactGoodChomps.calls (k : Nat) (A0 : Option Addr) (c0 : Nat) (l0 : List Int) (R : List (List Int)) (b : Bool) (m1 : Int) (y1 : List Int) (m2 : Int) (R2 : List (List Int)) (w : World) (hr0 : Kd.C (Kd.int .i64) w A0 l0.length l0) (hc0 : l0.length ≤ c0) (hlen : ¬ (l0.length : Int) > 1048576) (h : GoodAns k l0 R b m1 y1 m2 R2) :
    Calls Tryd.prog 10 #[.slice A0 l0.length c0] w fun e w' => e = .returned (.bool true) ∧ Below w.heap.size w w' := by
  have hto := fun W (hW : Below w.heap.size w W) => laws_toIntS.calls k A0 c0 l0 l0 W (Kd.C_below hr0 hW) hc0 h.cp
  have H := Aside0.mk h
  have hn1 : decide (m1 < 0) = false := decide_eq_false (by have := h.n1; omega)
  have hn2 : decide (m2 < 0) = false := decide_eq_false (by have := h.n2; omega)
  clear h hr0
  have tok1 := True.intro
  have tok2 := True.intro
  have tok3 := True.intro
  have tok4 := True.intro
  have tok5 := True.intro
  have tok6 := True.intro
  have tok7 := True.intro
  have tok8 := True.intro
  have tok9 := True.intro
  have tok10 := True.intro
  have tok11 := True.intro
  have tok12 := True.intro
  have tok13 := True.intro
  have tok14 := True.intro
  have tok15 := True.intro
  go_enter Tryd.func10, Tryd.ntmps10
  go_wp2_with (first
    | (go_at_call 12; clear tok1; refine (hto w (Below.refl _ _)).mono ?_; rintro e w1 ⟨v1, rfl, hr1, hb1⟩; obtain ⟨A1, d1, rfl, hd1, hC1⟩ := Kd.R_reads hr1; have HC1 := Aside0.mk hC1; have HB1 := Aside0.mk hb1; clear hr1 hb1 hC1)
    | (go_at_call 30; clear tok2; refine (spec_GoodChomps.calls A1 d1 l0 R b w1 HC1.out hd1 H.out.sp).mono ?_; rintro e w2 ⟨v2, rfl, hr2, hb2⟩; obtain ⟨A2, d2, rfl, hd2, _⟩ := Kd.S_reads hr2; have HS2 := Aside0.mk hr2; have HB2 := Aside0.mk (below_then HB1.out HB1.out.size hb2); clear hr2 hb2)
    | (go_at_call 12; clear tok3; refine (hto w2 HB2.out).mono ?_; rintro e w3 ⟨v3, rfl, hr3, hb3⟩; obtain ⟨A3, d3, rfl, hd3, hC3⟩ := Kd.R_reads hr3; have HR3 := Aside0.mk hr3; have HC3 := Aside0.mk hC3; have HV2 := Aside0.mk (Kd.S_mono (ok' := fun k_ => k_ < w2.heap.size) (Kd.S_old HS2.out hb3) (fun _ hk => hk.2)); have HB3 := Aside0.mk (below_then HB2.out HB2.out.size hb3); have HZ3 := Aside0.mk hb3.size; clear hr3 hb3 hC3)
    | (go_at_call 31; clear tok4; refine (impl_GoodChomps.calls A3 d3 l0 R b w3 HC3.out hd3 H.out.im).mono ?_; rintro e w4 ⟨v4, rfl, hr4, hb4⟩; obtain ⟨A4, d4, rfl, hd4, hC4⟩ := Kd.S_reads hr4; have HS4 := Aside0.mk hr4; have HC4 := Aside0.mk hC4; have HW2 := Aside0.mk (Kd.S_below HV2.out hb4); have HR4 := Aside0.mk (Kd.R_below (Kd.R_old HR3.out (Below.refl _ _)) hb4); have HB4 := Aside0.mk (below_then HB3.out HB3.out.size hb4); have HZ4 := Aside0.mk hb4.size; clear hr4 hb4 hC4)
    | (go_at_call 27; clear tok5; refine (laws_eqIntSS.calls k A4 d4 R A2 d2 R true w4 HC4.out hd4 (Kd.S_reads' HW2.out).2.2 hd2 H.out.eqs).mono ?_; rintro e w5 ⟨rfl, ⟨⟨n5, rfl⟩⟩⟩)
    | (go_at_call 12; clear tok6; refine (hto (w4.drewN n5) (pw_below_drewN HB4.out n5)).mono ?_; rintro e w6 ⟨v6, rfl, hr6, hb6⟩; obtain ⟨A6, d6, rfl, hd6, hC6⟩ := Kd.R_reads hr6; have HC6 := Aside0.mk hC6; have B46 := Aside0.mk (below_then (pw_below_drewN (Below.refl w4.heap.size w4) n5) (Nat.le_refl _) hb6); have HB6 := Aside0.mk (below_then HB4.out HB4.out.size B46.out); clear hr6 hb6 hC6)
    | (go_at_call 14; clear tok7; refine (laws_eqIntS.calls k A3 d3 l0 A6 d6 l0 true w6 (Kd.R_reads' (Kd.R_below HR4.out B46.out)).2.2 hd3 HC6.out hd6 H.out.eq1).mono ?_; rintro e w7 ⟨rfl, ⟨⟨n7, rfl⟩⟩⟩)
    | (go_at_call 32; clear tok8; refine (laws_markIntS.calls k (fun k_ => some k_ = (Value.slice A3 l0.length d3).ownBlock) (.slice A3 l0.length d3) l0 1 m1 y1 w (w6.drewN n7) (pw_below_drewN HB6.out n7) (Kd.R_lower (Kd.R_tight rfl (Kd.R_drewN (Kd.R_below HR4.out B46.out) n7)) HB2.out.size) H.out.mk1).mono ?_; rintro e w8 ⟨rfl, _, hb8, hk8⟩; have HB8 := Aside0.mk hb8; have HV28 := Aside0.mk (Kd.S_kept (Kd.S_drewN (Kd.S_below HW2.out B46.out) n7) hk8 (fun k_ hk he => by have := Kd.R_base HR3.out k_ he.symm; omega)); have HV48 := Aside0.mk (Kd.S_kept (Kd.S_drewN (Kd.S_below (Kd.S_mono (ok' := fun k_ => w3.heap.size ≤ k_) (Kd.S_bound HS4.out) (fun _ hk => hk.2.1)) B46.out) n7) hk8 (fun k_ hk he => by have := Kd.R_lt HR3.out k_ he.symm; omega)); clear hb8 hk8)
    | (go_at_call 27; clear tok9; refine (laws_eqIntSS.calls k A4 d4 R A2 d2 R true w8 (Kd.S_reads' HV48.out).2.2 hd4 (Kd.S_reads' HV28.out).2.2 hd2 H.out.eqs).mono ?_; rintro e w9 ⟨rfl, ⟨⟨n9, rfl⟩⟩⟩)
    | (go_at_call 28; clear tok10; refine (laws_markIntSS.calls k (fun k_ => w3.heap.size ≤ k_) (.slice A4 R.length d4) R 1 m2 R2 w (w8.drewN n9) (pw_below_drewN HB8.out n9) (Kd.S_lower (Kd.S_drewN HV48.out n9) HB3.out.size) H.out.mk2).mono ?_; rintro e w10 ⟨rfl, hs10, hb10, hk10⟩; have HB10 := Aside0.mk hb10; have HS10 := Aside0.mk hs10; have HL10 := Aside0.mk (Kd.S_reads' hs10).1; have HV2a := Aside0.mk (Kd.S_kept (Kd.S_drewN HV28.out n9) hk10 (fun k_ hk he => by have := HZ3.out; omega)); clear hb10 hs10 hk10)
    | (go_at_call 29; clear tok11; have hcc := laws_heldIntSS.calls k A4 d4 R2 1 m2 w10 (Kd.S_reads' HS10.out).2.2 (by have := HL10.out; omega) H.out.held; rw [← HL10.out] at hcc; refine hcc.mono ?_; clear hcc; rintro e w11 ⟨rfl, ⟨⟨n11, rfl⟩⟩⟩)
    | (go_at_call 12; clear tok12; refine (hto (w10.drewN n11) (pw_below_drewN HB10.out n11)).mono ?_; rintro e wa ⟨va, rfl, hra, hba⟩; obtain ⟨Aa, da, rfl, hda, hCa⟩ := Kd.R_reads hra; have HCa := Aside0.mk hCa; have Ba := Aside0.mk (below_then (pw_below_drewN (Below.refl w10.heap.size w10) n11) (Nat.le_refl _) hba); clear hra hba hCa)
    | (go_at_call 31; clear tok13; refine (impl_GoodChomps.calls Aa da l0 R b wa HCa.out hda H.out.im).mono ?_; rintro e wb ⟨vb, rfl, hrb, hbb⟩; obtain ⟨Ab, db, rfl, hdb, hCb⟩ := Kd.S_reads hrb; have HCb := Aside0.mk hCb; have Bb := Aside0.mk (below_then Ba.out Ba.out.size hbb); clear hrb hbb hCb)
    | (go_at_call 27; clear tok14; refine (laws_eqIntSS.calls k Ab db R A2 d2 R true wb HCb.out hdb (Kd.S_reads' (Kd.S_below HV2a.out Bb.out)).2.2 hd2 H.out.eqs).mono ?_; rintro e wc ⟨rfl, ⟨⟨nc, rfl⟩⟩⟩)
    | (go_at_call 29; clear tok15; have hcc := laws_heldIntSS.calls k A4 d4 R2 1 m2 (wb.drewN nc) (Kd.S_reads' (Kd.S_drewN (Kd.S_below HS10.out Bb.out) nc)).2.2 (by have := HL10.out; omega) H.out.held; rw [← HL10.out] at hcc; refine hcc.mono ?_; clear hcc; rintro e wd ⟨rfl, ⟨⟨nd, rfl⟩⟩⟩))
  go_ret
  exact ⟨rfl, pw_below_drewN (below_then HB10.out HB10.out.size Bb.out) _⟩

/-- What the law's helpers answer, all at once. -/
structure LostAns (k : Nat) (a0 a1 : Int) (R : List (List Int)) (b : Bool) (m2 : Int) (R2 : List (List Int)) : Prop where
  sp : spec_LostChomps.f a0 a1 = some (R, b)
  im : impl_LostChomps.f a0 a1 = some (R, b)
  eqs : laws_eqIntSS.f k R R = some true
  mk2 : laws_markIntSS.f k R 1 = some (m2, R2)
  held : laws_heldIntSS.f k R2 1 = some m2
  n2 : 0 ≤ m2

set_option maxHeartbeats 4000000 in
set_option maxRecDepth 100000 in
theorem laws_FnExactLostChomps.calls (k : Nat) (a0 a1 : Int) (R : List (List Int)) (b : Bool) (m2 : Int) (R2 : List (List Int)) (w : World) (h : LostAns k a0 a1 R b m2 R2) :
    Calls Tryd.prog 9 #[.int .i64 a0, .int .i64 a1] w fun e w' => e = .returned (.bool true) ∧ Below w.heap.size w w' := by
  have H := Aside0.mk h
  have hn2 : decide (m2 < 0) = false := decide_eq_false (by have := h.n2; omega)
  clear h
  have tok1 := True.intro
  have tok2 := True.intro
  have tok3 := True.intro
  have tok4 := True.intro
  have tok5 := True.intro
  have tok6 := True.intro
  have tok7 := True.intro
  have tok8 := True.intro
  go_enter Tryd.func9, Tryd.ntmps9
  go_wp2_with (first
    | (go_at_call 25; clear tok1; refine (spec_LostChomps.calls a0 a1 R b w H.out.sp).mono ?_; rintro e w2 ⟨v2, rfl, hr2, hb2⟩; obtain ⟨A2, d2, rfl, hd2, _⟩ := Kd.S_reads hr2; have HS2 := Aside0.mk hr2; have HB2 := Aside0.mk hb2; clear hr2 hb2)
    | (go_at_call 26; clear tok2; refine (impl_LostChomps.calls a0 a1 R b w2 H.out.im).mono ?_; rintro e w4 ⟨v4, rfl, hr4, hb4⟩; obtain ⟨A4, d4, rfl, hd4, hC4⟩ := Kd.S_reads hr4; have HS4 := Aside0.mk hr4; have HC4 := Aside0.mk hC4; have HW2 := Aside0.mk (S_tail HS2.out hb4); have HB4 := Aside0.mk (below_then HB2.out HB2.out.size hb4); have HZ4 := Aside0.mk hb4.size; clear hr4 hb4 hC4)
    | (go_at_call 27; clear tok3; refine (laws_eqIntSS.calls k A4 d4 R A2 d2 R true w4 HC4.out hd4 (Kd.S_reads' HW2.out).2.2 hd2 H.out.eqs).mono ?_; rintro e w5 ⟨rfl, ⟨⟨n5, rfl⟩⟩⟩)
    | (go_at_call 28; clear tok4; refine (laws_markIntSS.calls k (fun k_ => w2.heap.size ≤ k_) (.slice A4 R.length d4) R 1 m2 R2 w (w4.drewN n5) (pw_below_drewN HB4.out n5) (Kd.S_lower (Kd.S_drewN (Kd.S_mono (ok' := fun k_ => w2.heap.size ≤ k_) (Kd.S_bound HS4.out) (fun _ hk => hk.2.1)) n5) HB2.out.size) H.out.mk2).mono ?_; rintro e w10 ⟨rfl, hs10, hb10, hk10⟩; have HB10 := Aside0.mk hb10; have HS10 := Aside0.mk hs10; have HL10 := Aside0.mk (Kd.S_reads' hs10).1; have HV2a := Aside0.mk (Kd.S_kept (Kd.S_drewN HW2.out n5) hk10 (fun k_ hk he => by omega)); clear hb10 hs10 hk10)
    | (go_at_call 29; clear tok5; have hcc := laws_heldIntSS.calls k A4 d4 R2 1 m2 w10 (Kd.S_reads' HS10.out).2.2 (by have := HL10.out; omega) H.out.held; rw [← HL10.out] at hcc; refine hcc.mono ?_; clear hcc; rintro e w11 ⟨rfl, ⟨⟨n11, rfl⟩⟩⟩)
    | (go_at_call 26; clear tok6; refine (impl_LostChomps.calls a0 a1 R b (w10.drewN n11) H.out.im).mono ?_; rintro e wb ⟨vb, rfl, hrb, hbb⟩; obtain ⟨Ab, db, rfl, hdb, hCb⟩ := Kd.S_reads hrb; have HCb := Aside0.mk hCb; have Bb := Aside0.mk (below_then (pw_below_drewN (Below.refl w10.heap.size w10) n11) (Nat.le_refl _) hbb); clear hrb hbb hCb)
    | (go_at_call 27; clear tok7; refine (laws_eqIntSS.calls k Ab db R A2 d2 R true wb HCb.out hdb (Kd.S_reads' (Kd.S_below HV2a.out Bb.out)).2.2 hd2 H.out.eqs).mono ?_; rintro e wc ⟨rfl, ⟨⟨nc, rfl⟩⟩⟩)
    | (go_at_call 29; clear tok8; have hcc := laws_heldIntSS.calls k A4 d4 R2 1 m2 (wb.drewN nc) (Kd.S_reads' (Kd.S_drewN (Kd.S_below HS10.out Bb.out) nc)).2.2 (by have := HL10.out; omega) H.out.held; rw [← HL10.out] at hcc; refine hcc.mono ?_; clear hcc; rintro e wd ⟨rfl, ⟨⟨nd, rfl⟩⟩⟩))
  go_ret
  exact ⟨rfl, pw_below_drewN (below_then HB10.out HB10.out.size Bb.out) _⟩
end Go.Proofs.YtnmibkkchgagbaaDoor.All
