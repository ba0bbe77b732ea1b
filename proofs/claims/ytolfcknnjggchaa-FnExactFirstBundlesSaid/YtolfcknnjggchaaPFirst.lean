/- The reference's LeastPaper and FirstBundles answer as the program's do. Conditions: as each law states them. -/
import Derived.Test.YtolfcknnjggchaaPWr
import Derived.Test.YtolfcknnjggchaaPBx8
import Derived.Test.YtolfcknnjggchaaPBx9
namespace Go.Proofs.Ytolfcknnjggchaa.PFirst
open Go.RowKit Go.Proofs.Ytolfcknnjggchaa.PB Go.Proofs.YtolfcknnjggchaaW.PrintWords Go.Proofs.YtolfcknnjggchaaW.PrintLast Go.Proofs.Ytolfcknnjggchaa.PEv Go.Proofs.Ytolfcknnjggchaa.PPapers Go.Proofs.Ytolfcknnjggchaa.PWr
set_option linter.unusedSimpArgs false
set_option linter.unusedVariables false

theorem l1In_eq (a lo hi : Int) : spec_l1In.f a lo hi = some (decide (lo ≤ a ∧ a ≤ hi)) := by
  unfold spec_l1In.f
  by_cases h : a ≥ lo
  · simp [h]
  · simp [h]
theorem within_eq (a lo hi : Int) : impl_within.f a lo hi = some (decide (lo ≤ a ∧ a ≤ hi)) := by
  unfold impl_within.f
  by_cases h : lo ≤ a
  · simp [h]
  · simp [h]
def okA (a0 a1 a2 : Int) : Prop := (1 ≤ a0 ∧ a0 ≤ 60) ∧ (1 ≤ a1 ∧ a1 ≤ 60) ∧ (0 ≤ a2 ∧ a2 ≤ 60)
instance (a0 a1 a2 : Int) : Decidable (okA a0 a1 a2) := by unfold okA; infer_instance
theorem asked_eq (a0 a1 a2 : Int) : spec_wrAsked.f a0 a1 a2 = some (decide (okA a0 a1 a2)) := by
  unfold spec_wrAsked.f okA
  simp only [l1In_eq, Option.bind_some]
  by_cases h0 : 1 ≤ a0 ∧ a0 ≤ 60
  · by_cases h1 : 1 ≤ a1 ∧ a1 ≤ 60
    · by_cases h2 : 0 ≤ a2 ∧ a2 ≤ 60
      · simp [h0, h1, h2]
      · simp [h0, h1, h2]
    · simp [h0, h1]
  · simp [h0]
theorem bundled_eq (a0 a1 a2 : Int) : impl_areBundled.f a0 a1 a2 = some (decide (okA a0 a1 a2)) := by
  unfold impl_areBundled.f impl_isOver.f okA
  simp only [within_eq, Option.bind_some]
  by_cases h0 : 1 ≤ a0 ∧ a0 ≤ 60
  · by_cases h1 : 1 ≤ a1 ∧ a1 ≤ 60
    · by_cases h2 : 0 ≤ a2 ∧ a2 ≤ 60
      · simp [h0, h1, h2]
      · simp [h0, h1, h2]
    · simp [h0, h1]
  · simp [h0]
theorem bundles_eq {a0 a1 a2 : Int} (h : okA a0 a1 a2) : impl_bundles.f a0 a1 a2 = some (PReach.firsts (c a2) a1 1 a0, (PReach.bn (c a2) a1 1 a0).1) := by
  unfold impl_bundles.f
  rw [if_pos (show (1 ≤ a0 ∧ a0 ≤ 60) ∧ (1 ≤ a1 ∧ a1 ≤ 60) ∧ (0 ≤ a2 ∧ a2 ≤ 60) from h)]
  rfl
theorem c_low {s most : Int} (hs : 0 ≤ s ∧ s ≤ 60) (hm : 1 ≤ most ∧ most ≤ 60) : ∀ k, 1 ≤ k → k ≤ most → 0 ≤ c s k ∧ c s k ≤ 1000000 := fun k h1 h2 => by
  have := c_in hs (k := k) (by omega)
  omega
/-- What the table tells is what the program finds, where anything can be reached. -/
theorem told_bn {s most L n : Int} {b : Int × Int} (hs : 0 ≤ s ∧ s ≤ 60) (hm : 1 ≤ most ∧ most ≤ 60) (hL : 1 ≤ L) (hn : n ≤ 60) (h : PReach.Told (c s) most L n b) (hr : ∃ p m, PReach.Reach (c s) most L n p m) : b = PReach.bn (c s) most L n :=
  (PReach.Known.best h hr).uniq ((PReach.bn_known (c s) most (c_low hs hm) n.toNat L n (Nat.le_refl _) (by omega) hL).best hr)

theorem go_ev (most s : Int) (hm : 1 ≤ most ∧ most ≤ 60) (hs : 0 ≤ s ∧ s ≤ 60) : ∀ (z : Nat) (bb L0 : Int) (out : List Int), bb.toNat ≤ z → 0 ≤ bb ∧ bb ≤ 60 → 1 ≤ L0 → L0 ≤ 60 → (∃ p m, PReach.Reach (c s) most L0 bb p m) → out.length + bb.toNat ≤ 60 →
    ∀ (d : Nat) (L : Int), L0 ≤ L → (0 < bb → L ≤ PReach.firstK (c s) most L0 bb ∧ (PReach.firstK (c s) most L0 bb - L).toNat = d) →
      Ev (fun q => spec_FirstBundles.l0 q bb most s (seals s) (PReach.bn (c s) most L0 bb).1 (PReach.bn (c s) most L0 bb).2 out L) (out ++ PReach.firsts (c s) most L0 bb, true) := by
  intro z
  induction z with
  | zero =>
    intro bb L0 out hz hbb hL0 hL0m hr hol d L hL hK
    have hb0 : bb = 0 := by omega
    rw [PReach.firsts_eq (c_low hs hm) hL0 (by omega) hr, if_pos (by omega), List.append_nil]
    refine Ev.step (f := fun _ => some (out, true)) (fun q => ?_) (Ev.now _)
    simp only [spec_FirstBundles.l0]
    rw [if_neg (by omega)]
  | succ z ihz =>
    intro bb L0 out hz hbb hL0 hL0m hr hol d
    by_cases hpos : 0 < bb
    · obtain ⟨k1, k2, k3, k4, k5, k6⟩ := PReach.firstK_spec (c_low hs hm) hL0 (by omega) hpos hr
      have hfe := PReach.firsts_eq (c_low hs hm) hL0 (by omega) hr
      rw [if_neg (by omega)] at hfe
      have hG := (PReach.bn_known (c s) most (c_low hs hm) bb.toNat L0 bb (Nat.le_refl _) (by omega) hL0).best hr
      have hGp := hG.1.pos hL0
      have hGc := hG.1.cheap hL0 (c_low hs hm)
      have hih := ihz (bb - PReach.firstK (c s) most L0 bb) (PReach.firstK (c s) most L0 bb) (out ++ [PReach.firstK (c s) most L0 bb]) (by omega) (by omega) (by omega) (by omega) k6 (by rw [List.length_append, List.length_singleton]; omega)
      obtain ⟨K, hKK⟩ : ∃ K, PReach.firstK (c s) most L0 bb = K := ⟨_, rfl⟩
      obtain ⟨G, hGG⟩ : ∃ G, PReach.bn (c s) most L0 bb = G := ⟨_, rfl⟩
      have HGG := Aside0.mk hGG
      rw [hKK] at k1 k2 k3 k4 k5 k6 hfe hih
      rw [hGG] at hGp hGc
      have hgood : ∀ j, PReach.good (c s) most L0 bb j = decide ((PReach.bn (c s) most j (bb - j)).1 + c s j = G.1 ∧ (PReach.bn (c s) most j (bb - j)).2 + 1 = G.2) := fun j => by unfold PReach.good; rw [hGG]
      rw [hfe, hGG, hKK]
      clear hG hfe hKK hGG
      induction d with
      | zero =>
        intro L hL hK
        obtain ⟨q1, q2⟩ := hK hpos
        obtain rfl : L = K := by omega
        obtain ⟨P, F, p1, p2, p3, p4⟩ := wr_ev bb most s (by omega) hm hs L (by omega)
        have ht := told_bn hs hm (by omega) (by omega) (p3 (bb - L) (by omega) (by omega)) k6
        rw [hgood, decide_eq_true_eq] at k4
        have hP : rd P (bb - L) = (PReach.bn (c s) most L (bb - L)).1 := congrArg Prod.fst ht
        have hF : rd F (bb - L) = (PReach.bn (c s) most L (bb - L)).2 := congrArg Prod.snd ht
        obtain ⟨c1, c2, c3⟩ := c_in hs (k := L) (by omega)
        have hlen := seals_length s
        have hnext : Ev (fun q => spec_FirstBundles.l0 q (bb - L) most s (seals s) (G.1 - c s L) (G.2 - 1) (out ++ [L]) L) (out ++ L :: PReach.firsts (c s) most L (bb - L), true) := by
          have h1 : G.1 - c s L = (PReach.bn (c s) most L (bb - L)).1 := by omega
          have h2 : G.2 - 1 = (PReach.bn (c s) most L (bb - L)).2 := by omega
          rw [h1, h2]
          have := hih (PReach.firstK (c s) most L (bb - L) - L).toNat L (Int.le_refl _) (fun hp => ⟨(PReach.firstK_spec (c_low hs hm) (by omega) (by omega) hp k6).1, rfl⟩)
          rw [List.append_assoc, List.singleton_append] at this
          exact this
        have hw1 : wrap64 (bb - L) = bb - L := wrap_in (by omega) (by omega)
        have hw2 : wrap64 (G.2 - 1) = G.2 - 1 := wrap_in (by omega) (by omega)
        have hw3 : wrap64 (G.1 - c s L) = G.1 - c s L := wrap_in (by omega) (by omega)
        have HW1 := Aside0.mk hw1
        have HW2 := Aside0.mk hw2
        have HW3 := Aside0.mk hw3
        clear hw1 hw2 hw3 hih k5
        refine Ev.step (f := fun q => (spec_wrLeast.f q bb L most s).bind fun bt => if bb - L < (bt.2.length : Int) then (if rd bt.2 (bb - L) = G.2 - 1 then (if bb - L < (bt.1.length : Int) then (if rd bt.1 (bb - L) = G.1 - c s L then (if out.length < 17592186044416 then spec_FirstBundles.l0 q (bb - L) most s (seals s) (G.1 - c s L) (G.2 - 1) (out ++ [L]) L else none) else spec_FirstBundles.l0 q bb most s (seals s) G.1 G.2 out (wrap64 (L + 1))) else none) else spec_FirstBundles.l0 q bb most s (seals s) G.1 G.2 out (wrap64 (L + 1))) else none) (fun q => ?_) (Ev.bind p4 ?_)
        · simp only [spec_FirstBundles.l0]
          rw [if_pos (by omega)]
          congr 1
          funext bt
          rw [if_pos (by omega), if_pos (by omega), if_pos (by omega), c1, if_pos (by omega), HW1.out, HW2.out, HW3.out, if_pos (by omega)]
        · simp only
          refine pos (by omega) ?_
          refine pos (by omega) ?_
          refine pos (by omega) ?_
          refine pos (by omega) ?_
          exact pos (by omega) hnext
      | succ d ihd =>
        intro L hL hK
        obtain ⟨q1, q2⟩ := hK hpos
        obtain ⟨P, F, p1, p2, p3, p4⟩ := wr_ev bb most s (by omega) hm hs L (by omega)
        have ht := p3 (bb - L) (by omega) (by omega)
        have hng := k5 L hL (by omega)
        rw [hgood, decide_eq_false_iff_not] at hng
        have hnot : ¬ (rd F (bb - L) = G.2 - 1 ∧ rd P (bb - L) = G.1 - c s L) := by
          rintro ⟨e1, e2⟩
          by_cases hre : ∃ p m, PReach.Reach (c s) most L (bb - L) p m
          · have hb := told_bn hs hm (by omega) (by omega) ht hre
            rw [← hb] at hng
            exact hng ⟨by simp only; omega, by simp only; omega⟩
          · rcases ht with ⟨h, _⟩ | ⟨_, h⟩
            · exact hre h
            · simp only at h
              omega
        obtain ⟨c1, c2, c3⟩ := c_in hs (k := L) (by omega)
        have hlen := seals_length s
        have hnext := ihd (L + 1) (by omega) (fun _ => ⟨by omega, by omega⟩)
        have hw1 : wrap64 (bb - L) = bb - L := wrap_in (by omega) (by omega)
        have hw2 : wrap64 (G.2 - 1) = G.2 - 1 := wrap_in (by omega) (by omega)
        have hw3 : wrap64 (G.1 - c s L) = G.1 - c s L := wrap_in (by omega) (by omega)
        have hw4 : wrap64 (L + 1) = L + 1 := wrap_in (by omega) (by omega)
        have HW1 := Aside0.mk hw1
        have HW2 := Aside0.mk hw2
        have HW3 := Aside0.mk hw3
        have HW4 := Aside0.mk hw4
        clear hw1 hw2 hw3 hw4 hih k5 ihd
        refine Ev.step (f := fun q => (spec_wrLeast.f q bb L most s).bind fun bt => if bb - L < (bt.2.length : Int) then (if rd bt.2 (bb - L) = G.2 - 1 then (if bb - L < (bt.1.length : Int) then (if rd bt.1 (bb - L) = G.1 - c s L then (if out.length < 17592186044416 then spec_FirstBundles.l0 q (bb - L) most s (seals s) (G.1 - c s L) (G.2 - 1) (out ++ [L]) L else none) else spec_FirstBundles.l0 q bb most s (seals s) G.1 G.2 out (L + 1)) else none) else spec_FirstBundles.l0 q bb most s (seals s) G.1 G.2 out (L + 1)) else none) (fun q => ?_) (Ev.bind p4 ?_)
        · simp only [spec_FirstBundles.l0]
          rw [if_pos (by omega)]
          congr 1
          funext bt
          rw [if_pos (by omega), if_pos (by omega), if_pos (by omega), c1, if_pos (by omega), HW1.out, HW2.out, HW3.out, HW4.out, if_pos (by omega)]
        · simp only
          refine pos (by omega) ?_
          by_cases e1 : rd F (bb - L) = G.2 - 1
          · exact pos e1 (pos (by omega) (neg (fun e2 => hnot ⟨e1, e2⟩) hnext))
          · exact neg e1 hnext
    · intro L hL hK
      have hb0 : bb = 0 := by omega
      rw [PReach.firsts_eq (c_low hs hm) hL0 (by omega) hr, if_pos (by omega), List.append_nil]
      refine Ev.step (f := fun _ => some (out, true)) (fun q => ?_) (Ev.now _)
      simp only [spec_FirstBundles.l0]
      rw [if_neg (by omega)]
def least (a0 a1 a2 : Int) : Int × Bool := if okA a0 a1 a2 then ((PReach.bn (c a2) a1 1 a0).1, true) else (0, false)
def firsts (a0 a1 a2 : Int) : List Int × Bool := if okA a0 a1 a2 then (PReach.firsts (c a2) a1 1 a0, true) else ([], false)
theorem spec_least (a0 a1 a2 : Int) : Ev (fun k => spec_LeastPaper.f k a0 a1 a2) (least a0 a1 a2) := by
  unfold least
  by_cases h : okA a0 a1 a2
  · rw [if_pos h]
    have h0 := h
    unfold okA at h0
    obtain ⟨P, F, p1, p2, p3, p4⟩ := wr_ev a0 a1 a2 h0.1 h0.2.1 h0.2.2 1 (by omega)
    have ht := told_bn h0.2.2 h0.2.1 (Int.le_refl _) h0.1.2 (p3 a0 (by omega) (by omega)) (PReach.ones h0.2.1.1 (by omega) (Int.le_refl _))
    have hP : rd P a0 = (PReach.bn (c a2) a1 1 a0).1 := congrArg Prod.fst ht
    simp only [spec_LeastPaper.f, asked_eq, decide_eq_true h, Option.bind_some, if_true]
    refine Ev.bind p4 ?_
    simp only
    refine pos (by omega) ?_
    refine pos (by omega) ?_
    rw [hP]
    exact Ev.now _
  · rw [if_neg h]
    simp only [spec_LeastPaper.f, asked_eq, decide_eq_false h, Option.bind_some, Bool.false_eq_true, if_false]
    exact Ev.now _
theorem impl_least (a0 a1 a2 : Int) : impl_LeastPaper.f a0 a1 a2 = some (least a0 a1 a2) := by
  unfold least impl_LeastPaper.f
  by_cases h : okA a0 a1 a2
  · rw [if_pos h, bundled_eq, decide_eq_true h]
    simp only [Option.bind_some, if_true, bundles_eq h]
  · rw [if_neg h, bundled_eq, decide_eq_false h]
    simp
theorem spec_firsts (a0 a1 a2 : Int) : Ev (fun k => spec_FirstBundles.f k a0 a1 a2) (firsts a0 a1 a2) := by
  unfold firsts
  by_cases h : okA a0 a1 a2
  · rw [if_pos h]
    have h0 := h
    unfold okA at h0
    have hone := PReach.ones (c := c a2) (most := a1) (L := 1) h0.2.1.1 (show 0 ≤ a0 by omega) (Int.le_refl _)
    obtain ⟨P, F, p1, p2, p3, p4⟩ := wr_ev a0 a1 a2 h0.1 h0.2.1 h0.2.2 1 (by omega)
    have ht := told_bn h0.2.2 h0.2.1 (Int.le_refl _) h0.1.2 (p3 a0 (by omega) (by omega)) hone
    have hP : rd P a0 = (PReach.bn (c a2) a1 1 a0).1 := congrArg Prod.fst ht
    have hF : rd F a0 = (PReach.bn (c a2) a1 1 a0).2 := congrArg Prod.snd ht
    have hgo := go_ev a1 a2 h0.2.1 h0.2.2 a0.toNat a0 1 [] (Nat.le_refl _) (by omega) (Int.le_refl _) (by omega) hone (by simp; omega) _ 1 (Int.le_refl _) (fun hp => ⟨(PReach.firstK_spec (c_low h0.2.2 h0.2.1) (Int.le_refl _) (by omega) hp hone).1, rfl⟩)
    rw [List.nil_append] at hgo
    simp only [spec_FirstBundles.f, asked_eq, decide_eq_true h, Option.bind_some, if_true]
    refine Ev.bind (sealed_ev a2 h0.2.2) (Ev.bind p4 ?_)
    simp only
    refine pos (by omega) ?_
    refine pos (by omega) ?_
    refine pos (by omega) ?_
    rw [hP, hF]
    exact hgo
  · rw [if_neg h]
    simp only [spec_FirstBundles.f, asked_eq, decide_eq_false h, Option.bind_some, Bool.false_eq_true, if_false]
    exact Ev.now _
theorem impl_firsts (a0 a1 a2 : Int) : impl_FirstBundles.f a0 a1 a2 = some (firsts a0 a1 a2) := by
  unfold firsts impl_FirstBundles.f
  by_cases h : okA a0 a1 a2
  · rw [if_pos h, bundled_eq, decide_eq_true h]
    simp only [Option.bind_some, if_true, bundles_eq h]
  · rw [if_neg h, bundled_eq, decide_eq_false h]
    simp
theorem firsts_small (a0 a1 a2 : Int) : (firsts a0 a1 a2).1.length ≤ 100 := by
  unfold firsts
  split
  · next h =>
    unfold okA at h
    have := PReach.firsts_len (c_low h.2.2 h.2.1) a0.toNat 1 a0 (Nat.le_refl _) (Int.le_refl _) (by omega) (PReach.ones h.2.1.1 (by omega) (Int.le_refl _))
    show (PReach.firsts (c a2) a1 1 a0).length ≤ 100
    omega
  · simp
end Go.Proofs.Ytolfcknnjggchaa.PFirst
