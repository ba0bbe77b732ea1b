/- impl.bundles tells the first bundles with the least paper, and this: the contract of that function, in the form of the print. Conditions: none but the bounds that its callers check. -/
import Derived.Test.YtolfcknnjggchaaGBof
namespace Go.Proofs.Ytolfcknnjggchaa.PB
open Go.RowKit Go.Proofs.YtolfcknnjggchaaW.PrintWords Go.Proofs.YtolfcknnjggchaaW.PrintLast Go.Proofs.YtolfcknnjggchaaW.PrintMore Go.Shelf Go.Proofs.Ytolfcknnjggchaa.PReach Go.Proofs.Ytolfcknnjggchaa.PPapers Go.Maps Go.Joins
attribute [local go_sem] max2_int min2_int
set_option linter.unusedVariables false
set_option linter.unusedSimpArgs false

theorem paps_in : ∀ k, 1 ≤ k → k ≤ 60 → 0 ≤ rd paps k ∧ rd paps k ≤ 100000 := fun k h1 h2 => by
  rw [paps_at k ⟨h1, h2⟩]
  have := ppr_in k ⟨h1, h2⟩
  omega
theorem cst_in {most sl : Int} (hmost : 1 ≤ most ∧ most ≤ 60) (hsl : 0 ≤ sl ∧ sl ≤ 60) : ∀ k, 1 ≤ k → k ≤ most → 0 ≤ cst paps sl k ∧ cst paps sl k ≤ 1000000 := fun k h1 h2 => by
  have := paps_in k h1 (by omega)
  unfold cst
  omega

def lbv (w wp : World) : Array Value := #[.pointer (some ⟨wp.heap.size + 1 + 1, 0, none⟩), .pointer (some ⟨w.heap.size, 0, none⟩), .pointer (some ⟨wp.heap.size + 1 + 1 + 1, 0, none⟩), .pointer (some ⟨wp.heap.size + 1, 0, none⟩), .pointer (some ⟨w.heap.size + 1, 0, none⟩)]
def setW (w wp : World) (g cp : Nat) : World := (((wp.alloc (.map #[] 0)).alloc (.cells #[.slice (some ⟨g, 0, none⟩) paps.length cp] 37)).alloc (.cells #[.map (some wp.heap.size)] 67)).alloc (.cells #[.func (.func 65) #[] (lbv w wp)] 68)
theorem set_env {w wp : World} {ds : Array Value} {g cp : Nat} {most sl : Int} (hsz : w.heap.size + 2 ≤ wp.heap.size ∧ w.heap.size + 2 ≤ g) (hds : wp.heap[g]? = some (.cells ds 3 (0, 0))) (b0 : wp.heap[w.heap.size]? = some (.cells #[.int .i64 most] 3 (0, 0))) (b1 : wp.heap[w.heap.size + 1]? = some (.cells #[.int .i64 sl] 3 (0, 0))) :
    Env most sl ds (wp.heap.size + 1 + 1) w.heap.size (wp.heap.size + 1 + 1 + 1) (wp.heap.size + 1) (w.heap.size + 1) wp.heap.size g cp (setW w wp g cp) := by
  have e1 : wp.heap.size + 1 = (wp.alloc (.map #[] 0)).heap.size := by simp
  have e2 : wp.heap.size + 1 + 1 = ((wp.alloc (.map #[] 0)).alloc (.cells #[.slice (some ⟨g, 0, none⟩) paps.length cp] 37)).heap.size := by simp
  have e3 : wp.heap.size + 1 + 1 + 1 = (((wp.alloc (.map #[] 0)).alloc (.cells #[.slice (some ⟨g, 0, none⟩) paps.length cp] 37)).alloc (.cells #[.map (some wp.heap.size)] 67)).heap.size := by simp
  have q : ∀ {x : Nat} {o : Obj}, wp.heap[x]? = some o → (setW w wp g cp).heap[x]? = some o := fun h => blk_alloc (blk_alloc (blk_alloc (blk_alloc h _) _) _) _
  refine ⟨?_, q b0, ?_, ?_, q b1, q hds⟩
  · have := blk_alloc (blk_new ((wp.alloc (.map #[] 0)).alloc (.cells #[.slice (some ⟨g, 0, none⟩) paps.length cp] 37)) (.cells #[.map (some wp.heap.size)] 67)) (.cells #[.func (.func 65) #[] (lbv w wp)] 68)
    rw [← e2] at this
    exact this
  · have := blk_new (((wp.alloc (.map #[] 0)).alloc (.cells #[.slice (some ⟨g, 0, none⟩) paps.length cp] 37)).alloc (.cells #[.map (some wp.heap.size)] 67)) (.cells #[.func (.func 65) #[] (lbv w wp)] 68)
    rw [← e3] at this
    exact this
  · have := blk_alloc (blk_alloc (blk_new (wp.alloc (.map #[] 0)) (.cells #[.slice (some ⟨g, 0, none⟩) paps.length cp] 37)) (.cells #[.map (some wp.heap.size)] 67)) (.cells #[.func (.func 65) #[] (lbv w wp)] 68)
    rw [← e1, paps_length] at this
    unfold setW
    rw [paps_length]
    exact this
theorem set_memo {w wp : World} {g cp : Nat} {most sl : Int} : Memo paps most sl (setW w wp g cp) wp.heap.size := by
  refine ⟨0, .map [], (((World.ownsMap_made wp Try.prog 72 pairElem).alloc _).alloc _).alloc _, ?_, fun a b _ h => ?_⟩
  · have := room_le (.map [])
    omega
  · simp [Maps.has] at h
theorem set_below {w wp : World} {g cp : Nat} (h : Below w.heap.size w wp) : Below w.heap.size w (setW w wp g cp) := by
  have := h.size
  exact (((h.alloc this _).alloc (by simp; omega) _).alloc (by simp; omega) _).alloc (by simp; omega) _
theorem set_size {w wp : World} {g cp : Nat} : (setW w wp g cp).heap.size = wp.heap.size + 4 := by simp [setW]

theorem Env.kept2 {most sl : Int} {ds : Array Value} {Bk Bm Bo Bl Bs bm g c : Nat} {W W' : World} {row : Option Nat} (h : Env most sl ds Bk Bm Bo Bl Bs bm g c W) (hg : W.grownBy W' row) (hk : some Bk ≠ row) (hm : some Bm ≠ row) (ho : some Bo ≠ row) (hl : some Bl ≠ row) (hs : some Bs ≠ row) (hd : some g ≠ row) : Env most sl ds Bk Bm Bo Bl Bs bm g c W' := by
  have q : ∀ (x : Nat) (o : Obj), some x ≠ row → W.heap[x]? = some o → W'.heap[x]? = some o := fun x o hx ho => (hg.block x (blk_lt ho) hx).trans ho
  exact ⟨q _ _ hk h.k, q _ _ hm h.m, q _ _ ho h.o, q _ _ hl h.l, q _ _ hs h.s, q _ _ hd h.d⟩
theorem row_ne {W : World} {base bm : Nat} {ok : Nat → Prop} {v : Value} {xs : List Int} {most sl : Int} {LL : List Int} (h : Kd.R (Kd.int .i64) 3 W base ok v xs) (hm : Memo LL most sl W bm) : ∀ k, some bm = some k → some k ≠ v.ownBlock := by
  intro k hk he
  injection hk with hk
  subst hk
  obtain ⟨cells, h1⟩ := Kd.R_typed h bm he.symm
  obtain ⟨n, D, ⟨es, cl, h2, _⟩, _⟩ := hm
  rw [h1] at h2
  cases h2

set_option maxHeartbeats 8000000 in
set_option maxRecDepth 100000 in
theorem bundles_any (bars most sl : Int) (hbars : 1 ≤ bars ∧ bars ≤ 60) (hmost : 1 ≤ most ∧ most ≤ 60) (hsl : 0 ≤ sl ∧ sl ≤ 60) (w : World) :
    Calls Try.prog 58 #[.int .i64 bars, .int .i64 most, .int .i64 sl] w fun e w' => ∃ v0_ : Value, e = .returned (.tuple #[v0_, .int .i64 (bn (cst paps sl) most 1 bars).1]) ∧ Kd.R (Kd.int .i64) 3 w' w.heap.size (fun _ => True) v0_ (firsts (cst paps sl) most 1 bars) ∧ Below w.heap.size w w' := by
  obtain ⟨kp, hkp⟩ := papers_ev.rounds
  have hpc := fun W => impl_papers.calls kp paps W hkp
  have hmm := @run_makeMap Try.prog
  have eg : ∀ args w, (callFunc 65 args).run Try.prog w = .ok (.enter 65 args) w := enters_of Try.func65 (by kernel_rfl) rfl
  have hu70 := Try.underlying70
  clear hkp
  go_enter Try.func58, Try.ntmps58
  go_wp2_with (go_at_call 54; refine (hpc _).mono ?_; rintro e wp ⟨vp, rfl, hrp, hbp⟩; have HRP := Aside0.mk hrp; have HBP := Aside0.mk hbp; obtain ⟨g, cp, rfl, hgb, hglt, ds, hds⟩ := Kd.R_form hrp (by rw [paps_length]; omega); have HGB := Aside0.mk hgb; have HDS := Aside0.mk hds; clear hrp hbp hgb hds)
  have hsz : w.heap.size + 2 ≤ wp.heap.size ∧ w.heap.size + 2 ≤ g := by
    have h1 := HBP.out.size
    have h2 := HGB.out
    simp at h1 h2
    omega
  have hv : ∀ k : Nat, k < 61 → ds[k]? = some (.int .i64 (rd paps k)) := fun k hk => by
    have h1 := (Kd.R_celln (0 : Int) HRP.out (k : Int) (by omega) (by rw [paps_length]; omega)).1
    rw [blk_cell HDS.out] at h1
    simpa [rd, rdOf] using h1
  have b0 : wp.heap[w.heap.size]? = some (.cells #[.int .i64 most] 3 (0, 0)) := blk_below (blk_alloc (blk_new w _) _) HBP.out
  have b1 : wp.heap[w.heap.size + 1]? = some (.cells #[.int .i64 sl] 3 (0, 0)) := by
    have := blk_below (blk_new (w.alloc (.cells #[.int .i64 most] 3)) (.cells #[.int .i64 sl] 3)) HBP.out
    simpa using this
  have HBW : Aside0 (Below w.heap.size w wp) := ⟨below_then (below_alloc (below_alloc (Below.refl _ _) _) _) (by simp; omega) HBP.out⟩
  have hap : Apart (wp.heap.size + 1 + 1) w.heap.size (wp.heap.size + 1 + 1 + 1) (wp.heap.size + 1) (w.heap.size + 1) wp.heap.size g := ⟨by omega, by omega, by omega, by omega, by omega, by omega⟩
  have hof := of_any paps most sl ds (wp.heap.size + 1 + 1) w.heap.size (wp.heap.size + 1 + 1 + 1) (wp.heap.size + 1) (w.heap.size + 1) wp.heap.size g cp paps_length paps_in hmost hsl hv hap
  have HOF := Aside0.mk hof
  have HE0 := Aside0.mk (set_env (cp := cp) hsz HDS.out b0 b1)
  have HM0 := Aside0.mk (set_memo (w := w) (wp := wp) (g := g) (cp := cp) (most := most) (sl := sl))
  have HB0 := Aside0.mk (set_below (g := g) (cp := cp) HBW.out)
  have HS0 := Aside0.mk (set_size (w := w) (wp := wp) (g := g) (cp := cp))
  have hcall := hof 60 1 bars (setW w wp g cp) ⟨⟨by omega, by omega⟩, by omega, by omega⟩ (by omega) HM0.out HE0.out
  change Calls Try.prog 65 _ (setW w wp g cp) _
  refine hcall.mono ?_
  rintro e w1 ⟨rfl, hm1, hg1, _⟩
  have HM1 := Aside0.mk hm1
  have HE1 := Aside0.mk (HE0.out.kept most sl ds _ _ _ _ _ _ _ _ hap hg1)
  have HB1 : Aside0 (Below w.heap.size w w1) := ⟨Below.grown HB0.out hg1 HB0.out.size (by intro k hk; injection hk with hk; omega)⟩
  have HZ1 : Aside0 (wp.heap.size + 4 ≤ w1.heap.size) := ⟨by have := hg1.size; have := HS0.out; omega⟩
  clear hm1 hg1 hcall HM0 HE0 HB0 HS0 hof hpc HRP HBP HGB HDS b0 b1 HBW
  have hfd : ∀ (x y : Int) (w : World), (Instr.field 70 (.agg #[.int .i64 x, .int .i64 y]) 0).run Try.prog w = .ok (.int .i64 x) w := fun _ _ _ => by kernel_rfl
  go_wp2_with ((with_reducible refine gate_dst (N := 24) rfl ?_); refine Kd.R_lit (Kd.int .i64) _ 3 ?hg (N := 24) ?hd (xs := ([] : List Int)) (inner := []) (ok := fun k_ => wp.heap.size + 4 ≤ k_) (okp := fun _ => False) ?hr ?hp (fun _ hk => hk.elim) HZ1.out (Below.refl _ _) (Nat.le_refl _) (by simp) ?_; (case hd => rfl); (case hg => rfl); (case hr => first | (go_simp; done) | (go_simp; rfl)); (case hp => exact (Reps.none _ _)); intro v24 w2 ho5 hb5 hg5 hnew_; clear hnew_; have HR2 := Aside0.mk (Kd.R_lower ho5 HB1.out.size); have HB2 := Aside0.mk (below_then HB1.out HB1.out.size hb5); have HG2 := Aside0.mk hg5; clear ho5 hb5 hg5)
  have HM2 := Aside0.mk (HM1.out.kept _ _ _ HG2.out (by simp))
  have HE2 := Aside0.mk (HE1.out.kept most sl ds _ _ _ _ _ _ _ _ hap ⟨HG2.out.os, HG2.out.tape, HG2.out.output, HG2.out.size, fun i hi _ => HG2.out.block i hi (by simp)⟩)
  have HZ2 : Aside0 (wp.heap.size + 4 ≤ w2.heap.size) := ⟨Nat.le_trans HZ1.out HG2.out.size⟩
  have HAP := Aside0.mk hap
  have hc := cst_in hmost hsl
  have HC := Aside0.mk hc
  have HR0 : Aside0 (∃ p m, PReach.Reach (cst paps sl) most 1 bars p m) := ⟨ones hmost.1 (by omega) (Int.le_refl _)⟩
  have HV := Aside0.mk hv
  clear HM1 HE1 HB1 HZ1 HG2 hap hc hv
  go_loopg [0, 12, 13] bars.toNat (fun gg s0 s12 s13 wr => ∃ (bb L : Int) (acc : List Int), s0 = .int .i64 bb ∧ s13 = .int .i64 L ∧ (1 ≤ L ∧ L ≤ 60) ∧ (0 ≤ bb ∧ bb ≤ 60) ∧ bb.toNat ≤ gg ∧ (acc.length : Int) + bb ≤ 60 ∧ Aside0 (Kd.R (Kd.int .i64) 3 wr w.heap.size (fun k_ => wp.heap.size + 4 ≤ k_) s12 acc) ∧ Aside0 (Memo paps most sl wr wp.heap.size) ∧ Aside0 (Env most sl ds (wp.heap.size + 1 + 1) w.heap.size (wp.heap.size + 1 + 1 + 1) (wp.heap.size + 1) (w.heap.size + 1) wp.heap.size g cp wr) ∧ Aside0 (Below w.heap.size w wr) ∧ Aside0 (wp.heap.size + 4 ≤ wr.heap.size) ∧ Aside0 (∃ p m, PReach.Reach (cst paps sl) most L bb p m) ∧ Aside0 (acc ++ firsts (cst paps sl) most L bb = firsts (cst paps sl) most 1 bars))
  case atStart => exact ⟨bars, 1, [], rfl, rfl, by omega, by omega, Nat.le_refl _, by simp; omega, HR2, HM2, HE2, HB2, HZ2, HR0, ⟨rfl⟩⟩
  case round =>
    clear HR2 HM2 HE2 HB2 HZ2 HR0
    obtain ⟨bb, L, acc, rfl, rfl, hL, hbb, hgg, hlen, HR, HM, HE, HB, HZ, HRE, HF⟩ := hrel
    by_cases hpos : bb > 0
    · have ho3 : wr.cell? ⟨wp.heap.size + 1 + 1 + 1, 0, none⟩ = some (.func (.func 65) #[] (lbv w wp)) := (blk_cell HE.out.o 0).trans rfl
      unfold lbv at ho3
      have hcall := HOF.out 60 L bb wr ⟨hL, hbb⟩ (by omega) HM.out HE.out
      obtain ⟨k1, k2, k3, k4, k5, k6⟩ := firstK_spec HC.out hL.1 (by omega) hpos HRE.out
      have HFE := firsts_eq HC.out hL.1 (by omega) HRE.out
      rw [if_neg (by omega)] at HFE
      have HFE2 := Aside0.mk HFE
      clear HFE
      have HGB : Aside0 ((0 ≤ (bn (cst paps sl) most L bb).1 ∧ (bn (cst paps sl) most L bb).1 ≤ 1099511627776) ∧ 0 ≤ (bn (cst paps sl) most L bb).2 ∧ (bn (cst paps sl) most L bb).2 ≤ 100000) := ⟨bn_in paps_in hmost hsl hL.1 hbb.2⟩
      have K4 := Aside0.mk k4
      have K5 := Aside0.mk k5
      have K6 := Aside0.mk k6
      clear k4 k5 k6
      obtain ⟨K0, hK0⟩ : ∃ K0, firstK (cst paps sl) most L bb = K0 := ⟨_, rfl⟩
      rw [hK0] at k1 k2 k3 K4 K5 K6 HFE2
      obtain ⟨G, hG⟩ : ∃ G, bn (cst paps sl) most L bb = G := ⟨_, rfl⟩
      rw [hG] at hcall HGB
      have HG := Aside0.mk hG
      clear hK0 hG
      go_wp2_with (go_at_fn 65; refine hcall.mono ?_; rintro e w3 ⟨rfl, hm3, hg3, _⟩; have HM3 := Aside0.mk hm3; have HG3 := Aside0.mk hg3; clear hm3 hg3)
      have HN14 := Aside0.mk (blk_new w3 (.cells #[.int .i64 G.1, .int .i64 G.2] 70))
      have HG4 : Aside0 (wr.grownBy (w3.alloc (.cells #[.int .i64 G.1, .int .i64 G.2] 70)) (some wp.heap.size)) := ⟨World.grownBy.trans HG3.out (World.grownBy_alloc _ _ _)⟩
      have HM4 : Aside0 (Memo paps most sl (w3.alloc (.cells #[.int .i64 G.1, .int .i64 G.2] 70)) wp.heap.size) := ⟨HM3.out.kept _ _ _ (World.grownBy_alloc w3 (.cells #[.int .i64 G.1, .int .i64 G.2] 70) none) (by simp)⟩
      have HZ4 : Aside0 (wr.heap.size ≤ w3.heap.size) := ⟨HG3.out.size⟩
      obtain ⟨n14, hn14⟩ : ∃ n, w3.heap.size = n := ⟨_, rfl⟩
      rw [hn14] at HN14 HZ4 ⊢
      generalize w3.alloc (.cells #[.int .i64 G.1, .int .i64 G.2] 70) = w4 at HN14 HG4 HM4
      clear hn14 HG3 HM3 hcall ho3
      obtain ⟨V12, rfl⟩ : ∃ V, V = u12 := ⟨_, rfl⟩
      have HR4 : Aside0 (Kd.R (Kd.int .i64) 3 w4 w.heap.size (fun k_ => wp.heap.size + 4 ≤ k_) V12 acc) := ⟨Kd.R_grown2 HR.out rfl HG4.out (row_ne HR.out HM.out)⟩
      have HE4 := Aside0.mk (HE.out.kept most sl ds _ _ _ _ _ _ _ _ HAP.out HG4.out)
      have HB4 : Aside0 (Below w.heap.size w w4) := ⟨Below.grown HB.out HG4.out HB.out.size (by intro k hk; injection hk with hk; omega)⟩
      have hz4 : wp.heap.size + 4 ≤ n14 ∧ n14 < w4.heap.size := ⟨Nat.le_trans HZ.out HZ4.out, blk_lt HN14.out⟩
      have HZ5 := Aside0.mk hz4
      clear HR HM HE HB HG4 HZ HZ4 hz4
      go_loopg [0, 12, 13, 15] (K0 - L).toNat (fun gg2 s0 s12 s13 s15 wq => ∃ kk : Int, s0 = .int .i64 bb ∧ s12 = V12 ∧ s13 = .int .i64 L ∧ s15 = .int .i64 kk ∧ L ≤ kk ∧ kk ≤ K0 ∧ (K0 - kk).toNat ≤ gg2 ∧ Aside0 (Kd.R (Kd.int .i64) 3 wq w.heap.size (fun k_ => wp.heap.size + 4 ≤ k_) V12 acc) ∧ Aside0 (Memo paps most sl wq wp.heap.size) ∧ Aside0 (Env most sl ds (wp.heap.size + 1 + 1) w.heap.size (wp.heap.size + 1 + 1 + 1) (wp.heap.size + 1) (w.heap.size + 1) wp.heap.size g cp wq) ∧ Aside0 (Below w.heap.size w wq) ∧ Aside0 (wq.heap[n14]? = some (.cells #[.int .i64 G.1, .int .i64 G.2] 70 (0, 0))) ∧ Aside0 (wp.heap.size + 4 ≤ n14 ∧ n14 < wq.heap.size))
      case atStart => exact ⟨L, rfl, rfl, rfl, rfl, Int.le_refl _, k1, Nat.le_refl _, HR4, HM4, HE4, HB4, HN14, HZ5⟩
      case round =>
        clear HR4 HM4 HE4 HB4 HN14 HZ5
        obtain ⟨kk, rfl, rfl, rfl, rfl, hkL, hkK, hgg2, HR, HM, HE, HB, HN14, HZ⟩ := hrel
        have ho3 : wr.cell? ⟨wp.heap.size + 1 + 1 + 1, 0, none⟩ = some (.func (.func 65) #[] (lbv w wp)) := (blk_cell HE.out.o 0).trans rfl
        unfold lbv at ho3
        have hw1 : wrap64 (bb - kk) = bb - kk := by unfold wrap64; omega
        have hcall := HOF.out 60 kk (bb - kk) wr ⟨⟨by omega, by omega⟩, by omega, by omega⟩ (by omega) HM.out HE.out
        have HQB : Aside0 ((0 ≤ (bn (cst paps sl) most kk (bb - kk)).1 ∧ (bn (cst paps sl) most kk (bb - kk)).1 ≤ 1099511627776) ∧ 0 ≤ (bn (cst paps sl) most kk (bb - kk)).2 ∧ (bn (cst paps sl) most kk (bb - kk)).2 ≤ 100000) := ⟨bn_in paps_in hmost hsl (by omega) (by omega)⟩
        obtain ⟨q, hq⟩ : ∃ q, bn (cst paps sl) most kk (bb - kk) = q := ⟨_, rfl⟩
        rw [hq] at hcall HQB
        have HQ := Aside0.mk hq
        clear hq
        have RNE := Aside0.mk (row_ne HR.out HM.out)
        go_wp2_with (go_at_fn 65; refine hcall.mono ?_; rintro e w3 ⟨rfl, hm3, hg3, _⟩; have HM3 := Aside0.mk hm3; have HG3 := Aside0.mk hg3; clear hm3 hg3)
        clear hw1
        have HN16 := Aside0.mk (blk_new w3 (.cells #[.int .i64 q.1, .int .i64 q.2] 70))
        have HG4 : Aside0 (wr.grownBy (w3.alloc (.cells #[.int .i64 q.1, .int .i64 q.2] 70)) (some wp.heap.size)) := ⟨World.grownBy.trans HG3.out (World.grownBy_alloc _ _ _)⟩
        have HM4 : Aside0 (Memo paps most sl (w3.alloc (.cells #[.int .i64 q.1, .int .i64 q.2] 70)) wp.heap.size) := ⟨HM3.out.kept _ _ _ (World.grownBy_alloc w3 (.cells #[.int .i64 q.1, .int .i64 q.2] 70) none) (by simp)⟩
        obtain ⟨n16, hn16⟩ : ∃ n, w3.heap.size = n := ⟨_, rfl⟩
        rw [hn16] at HN16 ⊢
        generalize w3.alloc (.cells #[.int .i64 q.1, .int .i64 q.2] 70) = w5 at HN16 HG4 HM4
        clear hn16 HG3 HM3 hcall ho3
        have HR5 : Aside0 (Kd.R (Kd.int .i64) 3 w5 w.heap.size (fun k_ => wp.heap.size + 4 ≤ k_) u12 acc) := ⟨Kd.R_grown2 HR.out rfl HG4.out RNE.out⟩
        have HE5 := Aside0.mk (HE.out.kept most sl ds _ _ _ _ _ _ _ _ HAP.out HG4.out)
        have HB5 : Aside0 (Below w.heap.size w w5) := ⟨Below.grown HB.out HG4.out HB.out.size (by intro k hk; injection hk with hk; omega)⟩
        have HN14b : Aside0 (w5.heap[n14]? = some (.cells #[.int .i64 G.1, .int .i64 G.2] 70 (0, 0))) := ⟨(HG4.out.block n14 (by have := HZ.out; omega) (by have := HZ.out; simp; omega)).trans HN14.out⟩
        have HZ5 : Aside0 (wp.heap.size + 4 ≤ n14 ∧ n14 < w5.heap.size) := ⟨HZ.out.1, blk_lt HN14b.out⟩
        clear HR HM HE HB HG4 HN14 HZ RNE
        have c16a : w5.cell? ⟨n16, 0, none⟩ = some (.int .i64 q.1) := (blk_cell HN16.out 0).trans rfl
        have c16b : w5.cell? ⟨n16, 1, none⟩ = some (.int .i64 q.2) := (blk_cell HN16.out 1).trans rfl
        have c14a : w5.cell? ⟨n14, 0, none⟩ = some (.int .i64 G.1) := (blk_cell HN14b.out 0).trans rfl
        have c14b : w5.cell? ⟨n14, 1, none⟩ = some (.int .i64 G.2) := (blk_cell HN14b.out 1).trans rfl
        have cl : w5.cell? ⟨wp.heap.size + 1, 0, none⟩ = some (.slice (some ⟨g, 0, none⟩) 61 cp) := (blk_cell HE5.out.l 0).trans rfl
        have cs : w5.cell? ⟨w.heap.size + 1, 0, none⟩ = some (.int .i64 sl) := (blk_cell HE5.out.s 0).trans rfl
        have cg : w5.cell? ⟨g, kk.toNat, none⟩ = some (.int .i64 (rd paps kk)) := by
          refine (blk_cell HE5.out.d kk.toNat).trans ?_
          rw [HV.out kk.toNat (by omega), show ((kk.toNat : Nat) : Int) = kk by omega]
        have hrb := paps_in kk (by omega) (by omega)
        obtain ⟨r, hr⟩ : ∃ r, rd paps kk = r := ⟨_, rfl⟩
        rw [hr] at cg hrb
        have HRR := Aside0.mk hr
        have hq1 := HQB.out
        have hwa : wrap64 (q.1 + r) = q.1 + r := by unfold wrap64; omega
        have hwb : wrap64 (q.1 + r + sl) = q.1 + r + sl := by unfold wrap64; omega
        have hwc : wrap64 (q.2 + 1) = q.2 + 1 := by unfold wrap64; omega
        have hk0 : (0 : Int) ≤ kk := by omega
        have hk61 : kk < (61 : Int) := by omega
        have HGO : Aside0 (good (cst paps sl) most L bb kk = decide (q.1 + r + sl = G.1 ∧ q.2 + 1 = G.2)) := ⟨by
          unfold good cst
          have h1 := HQ.out
          have h2 := HG.out
          unfold cst at h1 h2
          rw [h1, h2, HRR.out, Int.add_assoc]⟩
        clear hq1 hr
        by_cases e1 : q.1 + r + sl = G.1
        · have e1b : (q.1 + r + sl == G.1) = true := beq_iff_eq.2 e1
          by_cases e2 : q.2 + 1 = G.2
          · have e2b : (q.2 + 1 == G.2) = true := beq_iff_eq.2 e2
            have hkk : kk = K0 := by
              by_cases h : kk < K0
              · have := K5.out kk hkL h
                rw [HGO.out, decide_eq_true ⟨e1, e2⟩] at this
                cases this
              · omega
            have HKK := Aside0.mk hkk
            clear e1 e2 hkk
            go_quiet (fail)
            have GQ := Aside0.mk (grown_of_below (pw_below_drewN (Below.refl w5.heap.size w5) nq) none)
            have HRq := Aside0.mk (Kd.R_drewN HR5.out nq)
            have HBq := Aside0.mk (pw_below_drewN HB5.out nq)
            have HN14q := Aside0.mk (blk_drewN HN14b.out nq)
            have HMq := Aside0.mk (HM4.out.kept _ _ _ GQ.out (by simp))
            have HEq := Aside0.mk (HE5.out.kept2 GQ.out (by simp) (by simp) (by simp) (by simp) (by simp) (by simp))
            have HZq : Aside0 (wp.heap.size + 4 ≤ n14 ∧ n14 < (w5.drewN nq).heap.size) := HZ5
            generalize w5.drewN nq = w6 at HRq HBq HN14q HMq HEq HZq
            clear GQ HR5 HB5 HN14b HM4 HE5 HZ5 HN16 c16a c16b c14a c14b cl cs cg hwa hwb hwc
            have hzq := HZq.out
            go_wp2_with ((with_reducible refine gate_builtin (b := .append) (xs := #[.tmp 60, .tmp 62]) rfl ?_); at_builtin; refine Kd.R_append (Kd.int .i64) (w0 := w) w.heap.size rfl (.tmp 60) (.tmp 62) 37 3 (.int .i64 0) 8 rfl Try.underlying37 info3 rfl (by decide) (by omega) u12 acc kk [.int .i64 kk] (fun k_ => wp.heap.size + 4 ≤ k_) (fun _ => False) rfl rfl ?aP (fun _ hk => hk.elim) ?aF ?aO ?aB ?aS ?aL ?_; (case aP => exact rfl); (case aB => exact HBq.out); (case aF => exact (fun k_ hk => by omega)); (case aO => exact HRq.out); (case aS => exact HBq.out.size); (case aL => omega); intro v12 w7 ho hb hg hat; have HO7 := Aside0.mk ho; have HB7 := Aside0.mk hb; have HG7 := Aside0.mk hg; clear ho hb hg hat)
            have hown := HRq.out.1
            have hne : ∀ x, x < wp.heap.size + 4 → some x ≠ u12.ownBlock := fun x hx he => by have := hown x he.symm; omega
            have hkkv := HKK.out
            have hFe := HFE2.out
            have hff := HF.out
            have hk6 := K6.out
            go_roundg (bb - kk).toNat
            case measure => omega
            case rel =>
              refine ⟨bb - kk, kk, acc ++ [kk], by congr 1, rfl, by omega, by omega, Nat.le_refl _, by rw [List.length_append, List.length_singleton]; omega, HO7, ⟨HMq.out.kept _ _ _ HG7.out (hne _ (by omega))⟩, ⟨HEq.out.kept2 HG7.out (hne _ (by omega)) (hne _ (by omega)) (hne _ (by omega)) (hne _ (by omega)) (hne _ (by omega)) (hne _ (by omega))⟩, HB7, ⟨by have := HG7.out.size; omega⟩, ⟨by rw [hkkv]; exact hk6⟩, ⟨?_⟩⟩
              rw [← hff, hFe, hkkv, List.append_assoc, List.singleton_append]
          · have e2b : (q.2 + 1 == G.2) = false := beq_eq_false_iff_ne.2 e2
            have hkk : kk < K0 := by
              by_cases h : kk = K0
              · have := K4.out
                rw [← h, HGO.out, decide_eq_true_eq] at this
                exact absurd this.2 e2
              · omega
            have HKK := Aside0.mk hkk
            clear e1 e2 hkk
            go_quiet (fail)
            have GQ := Aside0.mk (grown_of_below (pw_below_drewN (Below.refl w5.heap.size w5) nq) none)
            have HRq := Aside0.mk (Kd.R_drewN HR5.out nq)
            have HBq := Aside0.mk (pw_below_drewN HB5.out nq)
            have HN14q := Aside0.mk (blk_drewN HN14b.out nq)
            have HMq := Aside0.mk (HM4.out.kept _ _ _ GQ.out (by simp))
            have HEq := Aside0.mk (HE5.out.kept2 GQ.out (by simp) (by simp) (by simp) (by simp) (by simp) (by simp))
            have HZq : Aside0 (wp.heap.size + 4 ≤ n14 ∧ n14 < (w5.drewN nq).heap.size) := HZ5
            generalize w5.drewN nq = w6 at HRq HBq HN14q HMq HEq HZq
            clear GQ HR5 HB5 HN14b HM4 HE5 HZ5 HN16 c16a c16b c14a c14b cl cs cg hwa hwb hwc
            go_wp2
            go_roundg (K0 - (kk + 1)).toNat
            case measure => have := HKK.out; omega
            case rel => exact ⟨kk + 1, rfl, rfl, rfl, by go_num, by omega, by have := HKK.out; omega, Nat.le_refl _, HRq, HMq, HEq, HBq, HN14q, HZq⟩
        · have e1b : (q.1 + r + sl == G.1) = false := beq_eq_false_iff_ne.2 e1
          have hkk : kk < K0 := by
            by_cases h : kk = K0
            · have := K4.out
              rw [← h, HGO.out, decide_eq_true_eq] at this
              exact absurd this.1 e1
            · omega
          have HKK := Aside0.mk hkk
          clear e1 hkk
          go_quiet (fail)
          have GQ := Aside0.mk (grown_of_below (pw_below_drewN (Below.refl w5.heap.size w5) nq) none)
          have HRq := Aside0.mk (Kd.R_drewN HR5.out nq)
          have HBq := Aside0.mk (pw_below_drewN HB5.out nq)
          have HN14q := Aside0.mk (blk_drewN HN14b.out nq)
          have HMq := Aside0.mk (HM4.out.kept _ _ _ GQ.out (by simp))
          have HEq := Aside0.mk (HE5.out.kept2 GQ.out (by simp) (by simp) (by simp) (by simp) (by simp) (by simp))
          have HZq : Aside0 (wp.heap.size + 4 ≤ n14 ∧ n14 < (w5.drewN nq).heap.size) := HZ5
          generalize w5.drewN nq = w6 at HRq HBq HN14q HMq HEq HZq
          clear GQ HR5 HB5 HN14b HM4 HE5 HZ5 HN16 c16a c16b c14a c14b cl cs cg hwa hwb hwc
          go_wp2
          go_roundg (K0 - (kk + 1)).toNat
          case measure => have := HKK.out; omega
          case rel => exact ⟨kk + 1, rfl, rfl, rfl, by go_num, by omega, by have := HKK.out; omega, Nat.le_refl _, HRq, HMq, HEq, HBq, HN14q, HZq⟩
    · have hb0 : bb = 0 := by omega
      subst hb0
      have hF := HF.out
      rw [firsts_eq HC.out hL.1 (by omega) HRE.out, if_pos (Int.le_refl _), List.append_nil] at hF
      have HFF := Aside0.mk hF
      clear hF
      go_wp2
      go_ret2
      exact ⟨_, rfl, by rw [← HFF.out]; exact Kd.R_mono HR.out (fun _ _ => trivial), HB.out⟩
/-! ### the function itself -/
def impl_bundles.f (a0 : Int) (a1 : Int) (a2 : Int) : Option (List Int × Int) := if (1 ≤ a0 ∧ a0 ≤ 60) ∧ (1 ≤ a1 ∧ a1 ≤ 60) ∧ (0 ≤ a2 ∧ a2 ≤ 60) then some (firsts (cst paps a2) a1 1 a0, (bn (cst paps a2) a1 1 a0).1) else none
theorem impl_bundles.calls (a0 : Int) (a1 : Int) (a2 : Int) (r1 : List Int) (r2 : Int) (w : World) (h : impl_bundles.f a0 a1 a2 = some (r1, r2)) :
    Calls Try.prog 58 #[.int .i64 a0, .int .i64 a1, .int .i64 a2] w fun e w' => ∃ v0_ : Value, e = .returned (.tuple #[v0_, .int .i64 r2]) ∧ Kd.R (Kd.int .i64) 3 w' w.heap.size (fun _ => True) v0_ r1 ∧ Below w.heap.size w w' := by
  unfold impl_bundles.f at h
  split at h
  · next hc =>
    simp only [Option.some.injEq, Prod.mk.injEq] at h
    obtain ⟨rfl, rfl⟩ := h
    exact bundles_any a0 a1 a2 hc.1 hc.2.1 hc.2.2 w
  · cases h
end Go.Proofs.Ytolfcknnjggchaa.PB
