/- The reference's tables of the least paper of bundles: what they tell. Conditions: as each law states them. -/
import Derived.Test.YtolfcknnjggchaaPBx6
import Derived.Test.YtolfcknnjggchaaPPapers
import Derived.Test.YtolfcknnjggchaaPReach
namespace Go.Proofs.Ytolfcknnjggchaa.PWr
open Go.RowKit Go.Proofs.Ytolfcknnjggchaa.PB Go.Proofs.YtolfcknnjggchaaW.PrintWords Go.Proofs.YtolfcknnjggchaaW.PrintLast Go.Proofs.Ytolfcknnjggchaa.PEv Go.Proofs.Ytolfcknnjggchaa.PPapers
set_option linter.unusedSimpArgs false
set_option linter.unusedVariables false

theorem rd_set {T : List Int} {i j v : Int} (hj0 : 0 ≤ j) (hj : j < (T.length : Int)) (hi0 : 0 ≤ i) : rd (T.set j.toNat v) i = if i = j then v else rd T i := by
  unfold rd
  rw [List.getD_eq_getElem?_getD, List.getD_eq_getElem?_getD]
  split
  · next h => rw [h, List.getElem?_set_self (by omega)]; rfl
  · next h => rw [List.getElem?_set_ne (by omega)]
theorem rd_rep (m : Nat) (j : Int) : rd (List.replicate m (0 : Int)) j = 0 := by
  unfold rd
  rw [List.getD_eq_getElem?_getD, List.getElem?_replicate]
  split <;> rfl
def c (s k : Int) : Int := rd paps k + s
theorem c_in {s : Int} (hs : 0 ≤ s ∧ s ≤ 60) {k : Int} (h : 1 ≤ k ∧ k ≤ 60) : rd (seals s) k = c s k ∧ 0 < c s k ∧ c s k ≤ 1000000 := by
  have := ppr_in k h
  unfold c
  rw [paps_at k h, seals_at s k h]
  omega
theorem told_in {s most L n : Int} {b : Int × Int} (hs : 0 ≤ s ∧ s ≤ 60) (hm : 1 ≤ most ∧ most ≤ 60) (hL : 1 ≤ L) (hn : n ≤ 60) (h : PReach.Told (c s) most L n b) (h0 : ¬ b.2 < 0) : (0 ≤ b.1 ∧ b.1 ≤ 100000000) ∧ b.2 ≤ 60 := by
  rcases h with ⟨_, h⟩ | ⟨_, h⟩
  · have h1 := h.1.cheap hL (fun k h1 h2 => by have := c_in hs (k := k) (by omega); omega)
    have h2 := h.1.pos hL
    omega
  · omega
def cand (s : Int) (t : Int → Int × Int) (n k : Int) : Option (Int × Int) := if (t (n - k)).2 < 0 then none else some ((t (n - k)).1 + c s k, (t (n - k)).2 + 1)

theorem l1_ev (bars most s n : Int) (hb : 1 ≤ bars ∧ bars ≤ 60) (hm : 1 ≤ most ∧ most ≤ 60) (hs : 0 ≤ s ∧ s ≤ 60) (hn : 1 ≤ n ∧ n ≤ bars) (P0 F0 : List Int) (hP : (P0.length : Int) = bars + 1) (hF : (F0.length : Int) = bars + 1) (L : Int) (hL : 1 ≤ L)
    (hT : ∀ j, 0 ≤ j → j < n → PReach.Told (c s) most L j (rd P0 j, rd F0 j)) (r : List Int × List Int) :
    ∀ (d : Nat) (k : Int) (st : Int × Int), L ≤ k → k ≤ 1000 → d = PReach.cnt k most n → (0 ≤ st.2 → 0 ≤ st.1 ∧ st.1 ≤ 200000000 ∧ st.2 ≤ 100) →
      Ev (fun q => spec_wrLeast.l0 q bars L most (seals s) (P0.set n.toNat ((PReach.seg k d).foldl (fun o k => PReach.sbetter o (cand s (fun j => (rd P0 j, rd F0 j)) n k)) st).1) (F0.set n.toNat ((PReach.seg k d).foldl (fun o k => PReach.sbetter o (cand s (fun j => (rd P0 j, rd F0 j)) n k)) st).2) (n + 1)) r →
      Ev (fun q => spec_wrLeast.l1 q bars L most (seals s) (P0.set n.toNat st.1) (F0.set n.toNat st.2) n k) r := by
  intro d
  have hsl := seals_length s
  induction d with
  | zero =>
    intro k st h1 h2 h3 hst hr
    rw [show PReach.seg k 0 = [] from rfl, List.foldl_nil] at hr
    have hw : wrap64 (n + 1) = n + 1 := wrap_in (by omega) (by omega)
    have hc : ¬ (k ≤ most ∧ k ≤ n) := by unfold PReach.cnt at h3; split at h3 <;> omega
    have HW := Aside0.mk hw
    clear hw
    by_cases hk : k ≤ most
    · have hkn : ¬ k ≤ n := fun h => hc ⟨hk, h⟩
      refine Ev.step (f := fun q => spec_wrLeast.j2 q bars L most (seals s) (P0.set n.toNat st.1) (F0.set n.toNat st.2) n k false) (fun q => ?_) (Ev.step (f := fun q => spec_wrLeast.l0 q bars L most (seals s) (P0.set n.toNat st.1) (F0.set n.toNat st.2) (n + 1)) (fun q => ?_) hr)
      · simp only [spec_wrLeast.l1]
        rw [if_pos hk, decide_eq_false hkn]
      · simp only [spec_wrLeast.j2]
        rw [if_neg (by simp), HW.out]
    · refine Ev.step (f := fun q => spec_wrLeast.j2 q bars L most (seals s) (P0.set n.toNat st.1) (F0.set n.toNat st.2) n k false) (fun q => ?_) (Ev.step (f := fun q => spec_wrLeast.l0 q bars L most (seals s) (P0.set n.toNat st.1) (F0.set n.toNat st.2) (n + 1)) (fun q => ?_) hr)
      · simp only [spec_wrLeast.l1]
        rw [if_neg hk]
      · simp only [spec_wrLeast.j2]
        rw [if_neg (by simp), HW.out]
  | succ d ih =>
    intro k st h1 h2 h3 hst hr
    have hc : k ≤ most ∧ k ≤ n := by unfold PReach.cnt at h3; split at h3 <;> omega
    have hd : d = PReach.cnt (k + 1) most n := by unfold PReach.cnt at h3 ⊢; split at h3 <;> split <;> omega
    have hseg : PReach.seg k (d + 1) = k :: PReach.seg (k + 1) d := by
      unfold PReach.seg
      rw [List.range_succ_eq_map, List.map_cons, List.map_map]
      congr 1
      · simp
      · apply List.map_congr_left
        intro j _
        simp only [Function.comp]
        omega
    rw [hseg, List.foldl_cons] at hr
    obtain ⟨hck1, hck2, hck3⟩ := c_in hs (k := k) (by omega)
    have hrF : rd (F0.set n.toNat st.2) (n - k) = rd F0 (n - k) := by rw [rd_set (by omega) (by omega) (by omega), if_neg (by omega)]
    have hrP : rd (P0.set n.toNat st.1) (n - k) = rd P0 (n - k) := by rw [rd_set (by omega) (by omega) (by omega), if_neg (by omega)]
    have hrFn : rd (F0.set n.toNat st.2) n = st.2 := by rw [rd_set (by omega) (by omega) (by omega), if_pos rfl]
    have hrPn : rd (P0.set n.toNat st.1) n = st.1 := by rw [rd_set (by omega) (by omega) (by omega), if_pos rfl]
    have htold := hT (n - k) (by omega) (by omega)
    have hw1 : wrap64 (n - k) = n - k := wrap_in (by omega) (by omega)
    have hw2 : wrap64 (k + 1) = k + 1 := wrap_in (by omega) (by omega)
    have HW1 := Aside0.mk hw1
    have HW2 := Aside0.mk hw2
    clear hw1 hw2
    have step2 : ∀ (bb : Bool), bb = decide (rd F0 (n - k) < 0) → Ev (fun q => spec_wrLeast.j3 q bars L most (seals s) (P0.set n.toNat st.1) (F0.set n.toNat st.2) n k bb) r → Ev (fun q => spec_wrLeast.l1 q bars L most (seals s) (P0.set n.toNat st.1) (F0.set n.toNat st.2) n k) r := by
      intro bb hbb h
      refine Ev.step (f := fun q => spec_wrLeast.j2 q bars L most (seals s) (P0.set n.toNat st.1) (F0.set n.toNat st.2) n k true) (fun q => ?_) (Ev.step (f := fun q => spec_wrLeast.j3 q bars L most (seals s) (P0.set n.toNat st.1) (F0.set n.toNat st.2) n k bb) (fun q => ?_) h)
      · simp only [spec_wrLeast.l1]
        rw [if_pos hc.1, decide_eq_true hc.2]
      · simp only [spec_wrLeast.j2]
        rw [if_pos trivial, if_pos (by omega), if_pos (by omega), hck1, if_neg (by omega), HW1.out, if_pos (by omega), if_pos (by rw [List.length_set]; omega), hrF, hbb]
    by_cases hneg : rd F0 (n - k) < 0
    · have hcd : cand s (fun j => (rd P0 j, rd F0 j)) n k = none := by unfold cand; rw [if_pos hneg]
      rw [hcd] at hr
      refine step2 true (by simp [hneg]) (Ev.step (f := fun q => spec_wrLeast.l1 q bars L most (seals s) (P0.set n.toNat st.1) (F0.set n.toNat st.2) n (k + 1)) (fun q => ?_) (ih (k + 1) st (by omega) (by omega) hd hst hr))
      simp only [spec_wrLeast.j3]
      rw [if_pos trivial, HW2.out]
    · have hcd : cand s (fun j => (rd P0 j, rd F0 j)) n k = some (rd P0 (n - k) + c s k, rd F0 (n - k) + 1) := by unfold cand; rw [if_neg hneg]
      rw [hcd] at hr
      have hin := told_in hs hm hL (by omega) htold hneg
      simp only at hin
      have hw3 : wrap64 (rd P0 (n - k) + c s k) = rd P0 (n - k) + c s k := wrap_in (by omega) (by omega)
      have hw4 : wrap64 (rd F0 (n - k) + 1) = rd F0 (n - k) + 1 := wrap_in (by omega) (by omega)
      have HW3 := Aside0.mk hw3
      have HW4 := Aside0.mk hw4
      clear hw3 hw4
      refine step2 false (by simp [hneg]) ?_
      obtain ⟨gp, hgp⟩ : ∃ gp, rd P0 (n - k) + c s k = gp := ⟨_, rfl⟩
      obtain ⟨gm, hgm⟩ : ∃ gm, rd F0 (n - k) + 1 = gm := ⟨_, rfl⟩
      rw [hgp, hgm] at hr
      have take : PReach.sbetter st (some (gp, gm)) = (gp, gm) → Ev (fun q => spec_wrLeast.l1 q bars L most (seals s) (P0.set n.toNat gp) (F0.set n.toNat gm) n (k + 1)) r := fun h => by
        rw [h] at hr
        exact ih (k + 1) (gp, gm) (by omega) (by omega) hd (fun _ => by simp only; omega) hr
      have leave : PReach.sbetter st (some (gp, gm)) = st → Ev (fun q => spec_wrLeast.l1 q bars L most (seals s) (P0.set n.toNat st.1) (F0.set n.toNat st.2) n (k + 1)) r := fun h => by
        rw [h] at hr
        exact ih (k + 1) st (by omega) (by omega) hd hst hr
      clear hr
      by_cases a1 : st.2 < 0
      · refine Ev.step (fun q => ?_) (take (by unfold PReach.sbetter; simp only; rw [if_pos (.inl a1)]))
        simp only [spec_wrLeast.j3]
        rw [if_neg (by simp), HW1.out, if_pos (by omega), if_pos (by rw [List.length_set]; omega), if_pos (by omega), if_pos (by omega), if_pos (by rw [List.length_set]; omega), if_pos (by omega), if_pos (by rw [List.length_set]; omega), hrFn, if_pos a1, if_pos (by rw [List.length_set]; omega), hrP, hck1, HW3.out, hrF, HW4.out, HW2.out, hgp, hgm, List.set_set, List.set_set]
      · by_cases a2 : gp < st.1
        · refine Ev.step (fun q => ?_) (take (by unfold PReach.sbetter PReach.Lt; simp only; rw [if_pos (.inr (.inl a2))]))
          simp only [spec_wrLeast.j3]
          rw [if_neg (by simp), HW1.out, if_pos (by omega), if_pos (by rw [List.length_set]; omega), if_pos (by omega), if_pos (by omega), if_pos (by rw [List.length_set]; omega), if_pos (by omega), if_pos (by rw [List.length_set]; omega), hrFn, if_neg a1, if_pos (by rw [List.length_set]; omega), hrP, hck1, HW3.out, hrF, HW4.out, HW2.out, hgp, hgm, hrPn, if_pos a2, List.set_set, List.set_set]
        · by_cases a3 : gp = st.1
          · by_cases a4 : gm < st.2
            · refine Ev.step (fun q => ?_) (take (by unfold PReach.sbetter PReach.Lt; simp only; rw [if_pos (.inr (.inr ⟨a3, a4⟩))]))
              simp only [spec_wrLeast.j3]
              rw [if_neg (by simp), HW1.out, if_pos (by omega), if_pos (by rw [List.length_set]; omega), if_pos (by omega), if_pos (by omega), if_pos (by rw [List.length_set]; omega), if_pos (by omega), if_pos (by rw [List.length_set]; omega), hrFn, if_neg a1, if_pos (by rw [List.length_set]; omega), hrP, hck1, HW3.out, hrF, HW4.out, HW2.out, hgp, hgm, hrPn, if_neg a2, if_pos a3, if_pos a4, List.set_set, List.set_set]
            · refine Ev.step (fun q => ?_) (leave (by unfold PReach.sbetter PReach.Lt; simp only; rw [if_neg (by omega)]))
              simp only [spec_wrLeast.j3]
              rw [if_neg (by simp), HW1.out, if_pos (by omega), if_pos (by rw [List.length_set]; omega), if_pos (by omega), if_pos (by omega), if_pos (by rw [List.length_set]; omega), if_pos (by omega), if_pos (by rw [List.length_set]; omega), hrFn, if_neg a1, if_pos (by rw [List.length_set]; omega), hrP, hck1, HW3.out, hrF, HW4.out, HW2.out, hgp, hgm, hrPn, if_neg a2, if_pos a3, if_neg a4]
          · refine Ev.step (fun q => ?_) (leave (by unfold PReach.sbetter PReach.Lt; simp only; rw [if_neg (by omega)]))
            simp only [spec_wrLeast.j3]
            rw [if_neg (by simp), HW1.out, if_pos (by omega), if_pos (by rw [List.length_set]; omega), if_pos (by omega), if_pos (by omega), if_pos (by rw [List.length_set]; omega), if_pos (by omega), if_pos (by rw [List.length_set]; omega), hrFn, if_neg a1, if_pos (by rw [List.length_set]; omega), hrP, hck1, HW3.out, hrF, HW4.out, HW2.out, hgp, hgm, hrPn, if_neg a2, if_neg a3]

theorem l0_ev (bars most s : Int) (hb : 1 ≤ bars ∧ bars ≤ 60) (hm : 1 ≤ most ∧ most ≤ 60) (hs : 0 ≤ s ∧ s ≤ 60) (L : Int) (hL : 1 ≤ L ∧ L ≤ 100) :
    ∀ (d : Nat) (n : Int) (P F : List Int), 1 ≤ n → n + d = bars + 1 → (P.length : Int) = bars + 1 → (F.length : Int) = bars + 1 → (∀ j, 0 ≤ j → j < n → PReach.Told (c s) most L j (rd P j, rd F j)) →
      ∃ P' F' : List Int, (P'.length : Int) = bars + 1 ∧ (F'.length : Int) = bars + 1 ∧ (∀ j, 0 ≤ j → j ≤ bars → PReach.Told (c s) most L j (rd P' j, rd F' j)) ∧ Ev (fun q => spec_wrLeast.l0 q bars L most (seals s) P F n) (P', F') := by
  intro d
  induction d with
  | zero =>
    intro n P F h1 h2 hP hF hT
    refine ⟨P, F, hP, hF, fun j j0 j1 => hT j j0 (by omega), Ev.step (f := fun _ => some (P, F)) (fun q => ?_) (Ev.now _)⟩
    simp only [spec_wrLeast.l0]
    rw [if_neg (by omega)]
  | succ d ih =>
    intro n P F h1 h2 hP hF hT
    have hfold := PReach.told_step (c s) most L n (fun j => (rd P j, rd F j)) (rd P n, -1) hL.1 h1 (fun k k1 k2 => hT (n - k) (by omega) (by omega)) rfl
    obtain ⟨st, hst⟩ : ∃ st, (PReach.seg L (PReach.cnt L most n)).foldl (fun o k => PReach.sbetter o (cand s (fun j => (rd P j, rd F j)) n k)) (rd P n, -1) = st := ⟨_, rfl⟩
    have hfold2 : PReach.Told (c s) most L n st := by rw [← hst]; exact hfold
    obtain ⟨P', F', q1, q2, q3, q4⟩ := ih (n + 1) (P.set n.toNat st.1) (F.set n.toNat st.2) (by omega) (by omega) (by simpa using hP) (by simpa using hF) (fun j j0 j1 => by
      rw [rd_set (by omega) (by omega) j0, rd_set (by omega) (by omega) j0]
      by_cases e : j = n
      · rw [if_pos e, if_pos e, e]
        exact hfold2
      · rw [if_neg e, if_neg e]
        exact hT j j0 (by omega))
    refine ⟨P', F', q1, q2, q3, ?_⟩
    have hl1 := l1_ev bars most s n hb hm hs (by omega) P F hP hF L hL.1 hT (P', F') (PReach.cnt L most n) L (rd P n, -1) (Int.le_refl _) (by omega) rfl (fun h => by simp at h) (by rw [hst]; exact q4)
    have e : P.set n.toNat (rd P n) = P := by
      unfold rd
      rw [List.getD_eq_getElem?_getD, List.getElem?_eq_getElem (by omega)]
      exact List.set_getElem_self _
    simp only at hl1
    rw [e] at hl1
    refine Ev.step (f := fun q => spec_wrLeast.l1 q bars L most (seals s) P (F.set n.toNat (-1)) n L) (fun q => ?_) hl1
    simp only [spec_wrLeast.l0]
    rw [if_pos (by omega), if_pos (by omega), if_pos (by omega)]

theorem wr_ev (bars most s : Int) (hb : 1 ≤ bars ∧ bars ≤ 60) (hm : 1 ≤ most ∧ most ≤ 60) (hs : 0 ≤ s ∧ s ≤ 60) (L : Int) (hL : 1 ≤ L ∧ L ≤ 100) :
    ∃ P F : List Int, (P.length : Int) = bars + 1 ∧ (F.length : Int) = bars + 1 ∧ (∀ j, 0 ≤ j → j ≤ bars → PReach.Told (c s) most L j (rd P j, rd F j)) ∧ Ev (fun q => spec_wrLeast.f q bars L most s) (P, F) := by
  obtain ⟨P, F, q1, q2, q3, q4⟩ := l0_ev bars most s hb hm hs L hL bars.toNat 1 (List.replicate (bars + 1).toNat 0) (List.replicate (bars + 1).toNat 0) (by omega) (by omega) (by simp; omega) (by simp; omega) (fun j j0 j1 => by
    obtain rfl : j = 0 := by omega
    rw [rd_rep]
    refine .inl ⟨⟨0, 0, .nil⟩, .nil, fun p m h => ?_⟩
    have := h.pos hL.1
    unfold PReach.Lt
    simp only
    omega)
  refine ⟨P, F, q1, q2, q3, ?_⟩
  have hw : wrap64 (bars + 1) = bars + 1 := wrap_in (by omega) (by omega)
  refine Ev.congr (fun q => ?_) (Ev.bind (f := fun q t => spec_wrLeast.l0 q bars L most t (List.replicate (bars + 1).toNat 0) (List.replicate (bars + 1).toNat 0) 1) (sealed_ev s hs) q4)
  simp only [spec_wrLeast.f]
  congr 1
  funext t
  rw [hw]
  clear hw
  rw [if_pos (by omega), if_pos (by omega)]
end Go.Proofs.Ytolfcknnjggchaa.PWr
