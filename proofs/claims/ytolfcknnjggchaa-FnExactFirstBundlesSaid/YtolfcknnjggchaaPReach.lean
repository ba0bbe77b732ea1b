/- What bundles cost: what can be reached, the least of it by the program's recursion and by the reference's table, and the first bundles with it. Plain Lean, of no program. -/
namespace Go.Proofs.Ytolfcknnjggchaa.PReach
set_option linter.unusedVariables false
/-! ### bundles: what can be reached, and the least of it -/
/-- n small bars in m bundles of L to most bars, with paper p. -/
inductive Reach (c : Int → Int) (most L : Int) : Int → Int → Int → Prop
  | nil : Reach c most L 0 0 0
  | cons (k n p m : Int) : L ≤ k → k ≤ most → Reach c most L n p m → Reach c most L (n + k) (p + c k) (m + 1)
variable {c : Int → Int} {most : Int}
theorem Reach.mono {L L' n p m : Int} (h : Reach c most L n p m) (hL : L' ≤ L) : Reach c most L' n p m := by
  induction h with
  | nil => exact .nil
  | cons k n p m h1 h2 _ ih => exact .cons k n p m (Int.le_trans hL h1) h2 ih
theorem Reach.pos {L n p m : Int} (h : Reach c most L n p m) (hL : 1 ≤ L) : (n = 0 ∧ p = 0 ∧ m = 0) ∨ (L ≤ n ∧ 1 ≤ m ∧ m ≤ n) := by
  induction h with
  | nil => left; simp
  | cons k n p m h1 h2 _ ih => right; omega
theorem Reach.last {L n p m : Int} (h : Reach c most L n p m) (hL : 1 ≤ L) (hn : n ≠ 0) : ∃ k, L ≤ k ∧ k ≤ most ∧ k ≤ n ∧ Reach c most L (n - k) (p - c k) (m - 1) := by
  cases h with
  | nil => exact absurd rfl hn
  | cons k n p m h1 h2 h3 =>
    refine ⟨k, h1, h2, ?_, ?_⟩
    · have := h3.pos hL; omega
    · have e1 : n + k - k = n := by omega
      have e2 : p + c k - c k = p := by omega
      have e3 : m + 1 - 1 = m := by omega
      rw [e1, e2, e3]
      exact h3
theorem Reach.least {L n p m : Int} (h : Reach c most L n p m) (hL : 1 ≤ L) (hn : n ≠ 0) : ∃ k, L ≤ k ∧ k ≤ most ∧ k ≤ n ∧ Reach c most k (n - k) (p - c k) (m - 1) := by
  induction h with
  | nil => exact absurd rfl hn
  | cons k n p m h1 h2 h3 ih =>
    have hp := h3.pos hL
    by_cases h0 : n = 0
    · rcases hp with ⟨_, rfl, rfl⟩ | hp
      · subst h0
        refine ⟨k, h1, h2, by omega, ?_⟩
        have e1 : 0 + k - k = 0 := by omega
        have e2 : 0 + c k - c k = 0 := by omega
        have e3 : (0 : Int) + 1 - 1 = 0 := by omega
        rw [e1, e2, e3]
        exact .nil
      · omega
    · obtain ⟨j, j1, j2, j3, hj⟩ := ih h0
      by_cases hkj : j ≤ k
      · refine ⟨j, j1, j2, by omega, ?_⟩
        have := Reach.cons k _ _ _ hkj h2 hj
        have e1 : n - j + k = n + k - j := by omega
        have e2 : p - c j + c k = p + c k - c j := by omega
        have e3 : m - 1 + 1 = m + 1 - 1 := by omega
        rw [← e1, ← e2, ← e3]
        exact this
      · refine ⟨k, h1, h2, by omega, ?_⟩
        have := Reach.cons j _ _ _ (by omega : k ≤ j) j2 (hj.mono (by omega : k ≤ j))
        have e1 : n - j + j = n + k - k := by omega
        have e2 : p - c j + c j = p + c k - c k := by omega
        have e3 : m - 1 + 1 = m + 1 - 1 := by omega
        rw [← e1, ← e2, ← e3]
        exact this
theorem Reach.cons' {L k n p m : Int} (h : Reach c most L (n - k) p m) (h1 : L ≤ k) (h2 : k ≤ most) : Reach c most L n (p + c k) (m + 1) := by
  have := Reach.cons k _ _ _ h1 h2 h
  have e1 : n - k + k = n := by omega
  rw [e1] at this
  exact this
def Lt (a b : Int × Int) : Prop := a.1 < b.1 ∨ a.1 = b.1 ∧ a.2 < b.2
instance (a b : Int × Int) : Decidable (Lt a b) := by unfold Lt; infer_instance
theorem Lt.trans_le {a b d : Int × Int} (h : ¬ Lt a b) (h2 : ¬ Lt b d) : ¬ Lt a d := by unfold Lt at *; omega
def Best (c : Int → Int) (most L n : Int) (b : Int × Int) : Prop := Reach c most L n b.1 b.2 ∧ ∀ p m, Reach c most L n p m → ¬ Lt (p, m) b
theorem Best.uniq {L n : Int} {a b : Int × Int} (ha : Best c most L n a) (hb : Best c most L n b) : a = b := by
  have h1 := ha.2 _ _ hb.1
  have h2 := hb.2 _ _ ha.1
  unfold Lt at h1 h2
  apply Prod.ext <;> omega
/-- b is what there is of least, none told by d. -/
def Known (c : Int → Int) (most L n : Int) (d : Int × Int → Prop) (b : Int × Int) : Prop := (∃ p m, Reach c most L n p m) ∧ Best c most L n b ∨ (¬ ∃ p m, Reach c most L n p m) ∧ d b
def seg (L : Int) (cnt : Nat) : List Int := (List.range cnt).map (fun (i : Nat) => L + (i : Int))
theorem mem_seg {L k : Int} {cnt : Nat} : k ∈ seg L cnt ↔ L ≤ k ∧ k < L + cnt := by
  unfold seg
  rw [List.mem_map]
  constructor
  · rintro ⟨i, hi, rfl⟩
    have := List.mem_range.1 hi
    omega
  · rintro ⟨h1, h2⟩
    exact ⟨(k - L).toNat, List.mem_range.2 (by omega), by omega⟩
theorem seg_snoc (L : Int) (n : Nat) : seg L (n + 1) = seg L n ++ [L + (n : Int)] := by
  unfold seg
  rw [List.range_succ, List.map_append]
  rfl
/-! the program's scan -/
def better (out g : Int × Int) : Int × Int := if Lt g out then g else out
theorem scan_spec (g : Int → Int × Int) : ∀ (ks : List Int) (d : Int × Int), (ks.foldl (fun o k => better o (g k)) d = d ∨ ∃ k ∈ ks, ks.foldl (fun o k => better o (g k)) d = g k) ∧ (¬ Lt d (ks.foldl (fun o k => better o (g k)) d)) ∧ ∀ k ∈ ks, ¬ Lt (g k) (ks.foldl (fun o k => better o (g k)) d)
  | [], d => ⟨.inl rfl, by simp [Lt], by simp⟩
  | x :: r, d => by
    obtain ⟨h1, h2, h3⟩ := scan_spec g r (better d (g x))
    rw [List.foldl_cons]
    have hd : ¬ Lt d (better d (g x)) ∧ ¬ Lt (g x) (better d (g x)) := by
      unfold better
      split
      · next h => exact ⟨by unfold Lt at *; omega, by unfold Lt; omega⟩
      · next h => exact ⟨by unfold Lt; omega, h⟩
    refine ⟨?_, Lt.trans_le hd.1 h2, ?_⟩
    · rcases h1 with h1 | ⟨k, hk, h1⟩
      · rw [h1]
        unfold better
        split
        · exact .inr ⟨x, by simp, rfl⟩
        · exact .inl rfl
      · exact .inr ⟨k, by simp [hk], h1⟩
    · intro k hk
      rcases List.mem_cons.1 hk with rfl | hk
      · exact Lt.trans_le hd.2 h2
      · exact h3 k hk
def big : Int × Int := (1099511627776, 0)
def cnt (L most n : Int) : Nat := ((if most < n then most else n) - L + 1).toNat
theorem mem_ks {L most n k : Int} : k ∈ seg L (cnt L most n) ↔ L ≤ k ∧ k ≤ most ∧ k ≤ n := by
  rw [mem_seg]
  unfold cnt
  split <;> omega
def bnF (c : Int → Int) (most : Int) : Nat → Int → Int → Int × Int
  | 0, _, n => if n = 0 then (0, 0) else big
  | s + 1, L, n => if n = 0 then (0, 0) else (seg L (cnt L most n)).foldl (fun o k => better o ((bnF c most s k (n - k)).1 + c k, (bnF c most s k (n - k)).2 + 1)) big
def bn (c : Int → Int) (most L n : Int) : Int × Int := bnF c most n.toNat L n
theorem foldl_same {α β : Type} {f g : β → α → β} : ∀ (l : List α) (b : β), (∀ a b, a ∈ l → f b a = g b a) → l.foldl f b = l.foldl g b
  | [], _, _ => rfl
  | x :: r, b, h => by
    rw [List.foldl_cons, List.foldl_cons, h x b (by simp)]
    exact foldl_same r _ (fun a b ha => h a b (by simp [ha]))
theorem bn_stable (c : Int → Int) (most : Int) : ∀ (s : Nat) (L n : Int), 1 ≤ L → n.toNat ≤ s → bnF c most s L n = bnF c most n.toNat L n
  | 0, L, n, hL, hs => by
    have : n.toNat = 0 := by omega
    rw [this]
  | s + 1, L, n, hL, hs => by
    by_cases h0 : n.toNat = 0
    · rw [h0, bnF, bnF]
      split
      · rfl
      · have hc : cnt L most n = 0 := by unfold cnt; split <;> omega
        rw [hc]
        rfl
    · obtain ⟨m, hm⟩ : ∃ m, n.toNat = m + 1 := ⟨n.toNat - 1, by omega⟩
      rw [hm, bnF, bnF]
      split
      · rfl
      · refine foldl_same _ _ (fun k b hk => ?_)
        have := mem_ks.1 hk
        rw [bn_stable c most s k (n - k) (by omega) (by omega), bn_stable c most m k (n - k) (by omega) (by omega)]
theorem bn_eq (c : Int → Int) (most L n : Int) (hL : 1 ≤ L) : bn c most L n = if n = 0 then (0, 0) else (seg L (cnt L most n)).foldl (fun o k => better o ((bn c most k (n - k)).1 + c k, (bn c most k (n - k)).2 + 1)) big := by
  unfold bn
  by_cases h0 : n.toNat = 0
  · rw [h0, bnF]
    split
    · rfl
    · have hc : cnt L most n = 0 := by unfold cnt; split <;> omega
      rw [hc]
      rfl
  · obtain ⟨m, hm⟩ : ∃ m, n.toNat = m + 1 := ⟨n.toNat - 1, by omega⟩
    rw [hm, bnF]
    split
    · rfl
    · refine foldl_same _ _ (fun k b hk => ?_)
      have := mem_ks.1 hk
      rw [bn_stable c most m k (n - k) (by omega) (by omega)]
theorem Reach.cheap {L n p m : Int} (h : Reach c most L n p m) (hL : 1 ≤ L) (hc : ∀ k, 1 ≤ k → k ≤ most → 0 ≤ c k ∧ c k ≤ 1000000) : 0 ≤ p ∧ p ≤ 1000000 * m := by
  induction h with
  | nil => simp
  | cons k n p m h1 h2 _ ih => have := hc k (by omega) h2; omega
theorem bn_known (c : Int → Int) (most : Int) (hc : ∀ k, 1 ≤ k → k ≤ most → 0 ≤ c k ∧ c k ≤ 1000000) : ∀ (s : Nat) (L n : Int), n.toNat ≤ s → n ≤ 100000 → 1 ≤ L → Known c most L n (fun b => b = big) (bn c most L n)
  | s, L, n, hs, hn, hL => by
    by_cases h0 : n = 0
    · subst h0
      refine .inl ⟨⟨0, 0, .nil⟩, ?_⟩
      rw [bn_eq c most L 0 hL, if_pos rfl]
      refine ⟨.nil, fun p m h => ?_⟩
      have := h.pos hL
      unfold Lt
      simp only
      omega
    · have hk : ∀ k, k ∈ seg L (cnt L most n) → Known c most k (n - k) (fun b => b = big) (bn c most k (n - k)) := by
        intro k hk
        have := mem_ks.1 hk
        have hs1 : 1 ≤ s ∨ n < 0 := by omega
        match s, hs1 with
        | 0, _ => exact absurd this.2.2 (by omega)
        | s + 1, _ => exact bn_known c most hc s k (n - k) (by omega) (by omega) (by omega)
      rw [bn_eq c most L n hL, if_neg h0]
      obtain ⟨h1, h2, h3⟩ := scan_spec (fun k => ((bn c most k (n - k)).1 + c k, (bn c most k (n - k)).2 + 1)) (seg L (cnt L most n)) big
      generalize (seg L (cnt L most n)).foldl (fun o k => better o ((bn c most k (n - k)).1 + c k, (bn c most k (n - k)).2 + 1)) big = out at h1 h2 h3
      have hdead : ∀ k, k ∈ seg L (cnt L most n) → out = ((bn c most k (n - k)).1 + c k, (bn c most k (n - k)).2 + 1) → Best c most k (n - k) (bn c most k (n - k)) := by
        intro k hk1 hk2
        rcases hk k hk1 with ⟨_, hb⟩ | ⟨_, hb⟩
        · exact hb
        · exfalso
          apply h2
          rw [hk2, hb]
          have := mem_ks.1 hk1
          have := hc k (by omega) (by omega)
          unfold Lt big
          simp only
          omega
      by_cases hr : ∃ p m, Reach c most L n p m
      · refine .inl ⟨hr, ?_⟩
        obtain ⟨p0, m0, hr0⟩ := hr
        have hsome : ∀ p m, Reach c most L n p m → ∃ k, k ∈ seg L (cnt L most n) ∧ Best c most k (n - k) (bn c most k (n - k)) ∧ ¬ Lt (p, m) ((bn c most k (n - k)).1 + c k, (bn c most k (n - k)).2 + 1) := by
          intro p m h
          obtain ⟨k, k1, k2, k3, k4⟩ := h.least hL h0
          have hm := mem_ks.2 ⟨k1, k2, k3⟩
          rcases hk k hm with ⟨_, hb⟩ | ⟨hb, _⟩
          · refine ⟨k, hm, hb, ?_⟩
            have := hb.2 _ _ k4
            unfold Lt at this ⊢
            simp only at this ⊢
            omega
          · exact absurd ⟨_, _, k4⟩ hb
        obtain ⟨k, hk1, hk2, hk3⟩ := hsome _ _ hr0
        have hout : ∃ k ∈ seg L (cnt L most n), out = ((bn c most k (n - k)).1 + c k, (bn c most k (n - k)).2 + 1) := by
          rcases h1 with h1 | h1
          · exfalso
            have h4 := h3 k hk1
            rw [h1] at h4
            apply h4
            have hm := mem_ks.1 hk1
            have h5 := hk2.1.cheap (by omega) hc
            have h6 := hk2.1.pos (by omega)
            have h7 := hc k (by omega) (by omega)
            unfold Lt big
            simp only
            omega
          · exact h1
        obtain ⟨j, hj1, hj2⟩ := hout
        have hb := hdead j hj1 hj2
        have hm := mem_ks.1 hj1
        refine ⟨?_, fun p m h => ?_⟩
        · rw [hj2]
          exact (hb.1.mono hm.1).cons' hm.1 hm.2.1
        · obtain ⟨i, hi1, hi2, hi3⟩ := hsome _ _ h
          exact Lt.trans_le hi3 (h3 i hi1)
      · refine .inr ⟨hr, ?_⟩
        rcases h1 with h1 | ⟨j, hj1, hj2⟩
        · exact h1
        · exfalso
          have hb := hdead j hj1 hj2
          have hm := mem_ks.1 hj1
          exact hr ⟨_, _, (hb.1.mono hm.1).cons' hm.1 hm.2.1⟩
/-! the reference's scan: -1 is none -/
def sbetter (o : Int × Int) (g : Option (Int × Int)) : Int × Int := match g with
  | none => o
  | some g => if o.2 < 0 ∨ Lt g o then g else o
theorem sscan_spec (g : Int → Option (Int × Int)) (hg : ∀ k b, g k = some b → 0 ≤ b.2) : ∀ (ks : List Int) (d : Int × Int), (ks.foldl (fun o k => sbetter o (g k)) d = d ∨ ∃ k ∈ ks, g k = some (ks.foldl (fun o k => sbetter o (g k)) d)) ∧ (0 ≤ d.2 → 0 ≤ (ks.foldl (fun o k => sbetter o (g k)) d).2 ∧ ¬ Lt d (ks.foldl (fun o k => sbetter o (g k)) d)) ∧ ∀ k ∈ ks, ∀ b, g k = some b → 0 ≤ (ks.foldl (fun o k => sbetter o (g k)) d).2 ∧ ¬ Lt b (ks.foldl (fun o k => sbetter o (g k)) d)
  | [], d => ⟨.inl rfl, fun h => ⟨h, by simp [Lt]⟩, by simp⟩
  | x :: r, d => by
    obtain ⟨h1, h2, h3⟩ := sscan_spec g hg r (sbetter d (g x))
    rw [List.foldl_cons]
    have hd1 : 0 ≤ d.2 → 0 ≤ (sbetter d (g x)).2 ∧ ¬ Lt d (sbetter d (g x)) := by
      intro h0
      unfold sbetter
      split
      · exact ⟨h0, by unfold Lt; omega⟩
      · next b hb =>
        split
        · next h => exact ⟨hg _ _ hb, by unfold Lt at *; omega⟩
        · exact ⟨h0, by unfold Lt; omega⟩
    have hd2 : ∀ b, g x = some b → 0 ≤ (sbetter d (g x)).2 ∧ ¬ Lt b (sbetter d (g x)) := by
      intro b hb
      rw [hb]
      unfold sbetter
      simp only
      split
      · exact ⟨hg _ _ hb, by unfold Lt; omega⟩
      · next h => exact ⟨by omega, fun hl => h (.inr hl)⟩
    refine ⟨?_, ?_, ?_⟩
    · rcases h1 with h1 | ⟨k, hk, h1⟩
      · rw [h1]
        unfold sbetter
        split
        · exact .inl rfl
        · next b hb =>
          split
          · exact .inr ⟨x, by simp, hb⟩
          · exact .inl rfl
      · exact .inr ⟨k, by simp [hk], h1⟩
    · intro h0
      obtain ⟨a1, a2⟩ := hd1 h0
      obtain ⟨b1, b2⟩ := h2 a1
      exact ⟨b1, Lt.trans_le a2 b2⟩
    · intro k hk b hb
      rcases List.mem_cons.1 hk with rfl | hk
      · obtain ⟨a1, a2⟩ := hd2 b hb
        obtain ⟨b1, b2⟩ := h2 a1
        exact ⟨b1, Lt.trans_le a2 b2⟩
      · exact h3 k hk b hb
/-- What the reference's table says of n. -/
def Told (c : Int → Int) (most L n : Int) (b : Int × Int) : Prop := Known c most L n (fun b => b.2 = -1) b
theorem told_step (c : Int → Int) (most L n : Int) (t : Int → Int × Int) (d : Int × Int) (hL : 1 ≤ L) (hn : 1 ≤ n) (ht : ∀ k, L ≤ k → k ≤ n → Told c most L (n - k) (t (n - k))) (hd : d.2 = -1) :
    Told c most L n ((seg L (cnt L most n)).foldl (fun o k => sbetter o (if (t (n - k)).2 < 0 then none else some ((t (n - k)).1 + c k, (t (n - k)).2 + 1))) d) := by
  have hg : ∀ k b, (fun k => if (t (n - k)).2 < 0 then none else some ((t (n - k)).1 + c k, (t (n - k)).2 + 1)) k = some b → 0 ≤ b.2 := by
    intro k b h
    simp only at h
    split at h
    · cases h
    · cases h
      simp only
      omega
  obtain ⟨h1, h2, h3⟩ := sscan_spec (fun k => if (t (n - k)).2 < 0 then none else some ((t (n - k)).1 + c k, (t (n - k)).2 + 1)) hg (seg L (cnt L most n)) d
  generalize (seg L (cnt L most n)).foldl (fun o k => sbetter o (if (t (n - k)).2 < 0 then none else some ((t (n - k)).1 + c k, (t (n - k)).2 + 1))) d = out at h1 h2 h3
  have hlive : ∀ k, k ∈ seg L (cnt L most n) → ¬ (t (n - k)).2 < 0 → Best c most L (n - k) (t (n - k)) := by
    intro k hk h
    have hm := mem_ks.1 hk
    rcases ht k hm.1 hm.2.2 with ⟨_, hb⟩ | ⟨_, hb⟩
    · exact hb
    · omega
  have hsome : ∀ p m, Reach c most L n p m → ∃ k, k ∈ seg L (cnt L most n) ∧ Best c most L (n - k) (t (n - k)) ∧ ¬ (t (n - k)).2 < 0 ∧ ¬ Lt (p, m) ((t (n - k)).1 + c k, (t (n - k)).2 + 1) := by
    intro p m h
    obtain ⟨k, k1, k2, k3, k4⟩ := h.last hL (by omega)
    have hm := mem_ks.2 ⟨k1, k2, k3⟩
    rcases ht k k1 k3 with ⟨_, hb⟩ | ⟨hb, _⟩
    · refine ⟨k, hm, hb, ?_, ?_⟩
      · have := hb.1.pos hL; omega
      · have := hb.2 _ _ k4
        unfold Lt at this ⊢
        simp only at this ⊢
        omega
    · exact absurd ⟨_, _, k4⟩ hb
  by_cases hr : ∃ p m, Reach c most L n p m
  · refine .inl ⟨hr, ?_⟩
    obtain ⟨p0, m0, hr0⟩ := hr
    obtain ⟨k, hk1, hk2, hk3, hk4⟩ := hsome _ _ hr0
    have h4 := h3 k hk1 _ (by rw [if_neg hk3])
    have hout : ∃ j ∈ seg L (cnt L most n), ¬ (t (n - j)).2 < 0 ∧ out = ((t (n - j)).1 + c j, (t (n - j)).2 + 1) := by
      rcases h1 with h1 | ⟨j, hj, h1⟩
      · rw [h1, hd] at h4; omega
      · split at h1
        · cases h1
        · next hh => exact ⟨j, hj, hh, by injection h1 with h1; exact h1.symm⟩
    obtain ⟨j, hj1, hj2, hj3⟩ := hout
    have hb := hlive j hj1 hj2
    have hm := mem_ks.1 hj1
    refine ⟨?_, fun p m h => ?_⟩
    · rw [hj3]
      exact hb.1.cons' hm.1 hm.2.1
    · obtain ⟨i, hi1, hi2, hi3, hi4⟩ := hsome _ _ h
      exact Lt.trans_le hi4 (h3 i hi1 _ (by rw [if_neg hi3])).2
  · refine .inr ⟨hr, ?_⟩
    rcases h1 with h1 | ⟨j, hj1, h1⟩
    · rw [h1]; exact hd
    · exfalso
      split at h1
      · cases h1
      · next hh =>
        have hb := hlive j hj1 hh
        have hm := mem_ks.1 hj1
        exact hr ⟨_, _, hb.1.cons' hm.1 hm.2.1⟩
/-! the first bundles -/
def good (c : Int → Int) (most L n k : Int) : Bool := decide ((bn c most k (n - k)).1 + c k = (bn c most L n).1 ∧ (bn c most k (n - k)).2 + 1 = (bn c most L n).2)
theorem ones {L n : Int} (hm : 1 ≤ most) (hn : 0 ≤ n) (hL : L ≤ 1) : ∃ p m, Reach c most L n p m := by
  obtain ⟨j, rfl⟩ := Int.eq_ofNat_of_zero_le hn
  induction j with
  | zero => exact ⟨0, 0, .nil⟩
  | succ j ih =>
    obtain ⟨p, m, h⟩ := ih (by omega)
    exact ⟨_, _, by have := Reach.cons 1 _ _ _ hL hm h; simpa using this⟩
theorem Known.best {L n : Int} {d : Int × Int → Prop} {b : Int × Int} (h : Known c most L n d b) (hr : ∃ p m, Reach c most L n p m) : Best c most L n b := by
  rcases h with ⟨_, h⟩ | ⟨h, _⟩
  · exact h
  · exact absurd hr h
theorem good_reach {L n k : Int} (hc : ∀ k, 1 ≤ k → k ≤ most → 0 ≤ c k ∧ c k ≤ 1000000) (hL : 1 ≤ L) (hn : n ≤ 100000) (h0 : 0 < n) (hr : ∃ p m, Reach c most L n p m) (hk : L ≤ k) (hkm : k ≤ most) (hg : good c most L n k = true) : (∃ p m, Reach c most k (n - k) p m) ∧ k ≤ n := by
  have hb := (bn_known c most hc n.toNat L n (Nat.le_refl _) hn hL).best hr
  have hcp := hb.1.cheap hL hc
  have hps := hb.1.pos hL
  have hck := hc k (by omega) hkm
  unfold good at hg
  rw [decide_eq_true_eq] at hg
  rcases bn_known c most hc (n - k).toNat k (n - k) (Nat.le_refl _) (by omega) (by omega) with ⟨h, _⟩ | ⟨_, h⟩
  · obtain ⟨p, m, h⟩ := h
    have := h.pos (by omega)
    exact ⟨⟨p, m, h⟩, by omega⟩
  · rw [h] at hg
    unfold big at hg
    simp only at hg
    omega
theorem good_exists {L n : Int} (hc : ∀ k, 1 ≤ k → k ≤ most → 0 ≤ c k ∧ c k ≤ 1000000) (hL : 1 ≤ L) (hn : n ≤ 100000) (h0 : 0 < n) (hr : ∃ p m, Reach c most L n p m) : ∃ k, L ≤ k ∧ k ≤ most ∧ k ≤ n ∧ good c most L n k = true := by
  have hb := (bn_known c most hc n.toNat L n (Nat.le_refl _) hn hL).best hr
  obtain ⟨k, h1, h2, h3, h4⟩ := hb.1.least hL (by omega)
  have hk := (bn_known c most hc (n - k).toNat k (n - k) (Nat.le_refl _) (by omega) (by omega)).best ⟨_, _, h4⟩
  have e1 := hk.2 _ _ h4
  have e2 := hb.2 _ _ ((hk.1.mono h1).cons' h1 h2)
  refine ⟨k, h1, h2, h3, ?_⟩
  unfold good
  rw [decide_eq_true_eq]
  unfold Lt at e1 e2
  simp only at e1 e2
  omega
def firstK (c : Int → Int) (most L n : Int) : Int := ((seg L (cnt L most n)).find? (good c most L n)).getD 0
theorem find_seg (p : Int → Bool) (L : Int) : ∀ (m : Nat) (k : Int), (seg L m).find? p = some k → p k = true ∧ L ≤ k ∧ k < L + m ∧ ∀ j, L ≤ j → j < k → p j = false := by
  intro m
  induction m with
  | zero => intro k h; simp [seg] at h
  | succ m ih =>
    intro k h
    rw [seg_snoc, List.find?_append] at h
    cases hf : (seg L m).find? p with
    | some x =>
      rw [hf] at h
      simp only [Option.some_or, Option.some.injEq] at h
      subst h
      obtain ⟨a1, a2, a3, a4⟩ := ih x hf
      exact ⟨a1, a2, by omega, a4⟩
    | none =>
      rw [hf] at h
      simp only [Option.none_or] at h
      rw [List.find?_cons] at h
      cases hp : p (L + (m : Int)) with
      | false => rw [hp] at h; simp at h
      | true =>
        rw [hp] at h
        simp only [Option.some.injEq] at h
        subst h
        refine ⟨hp, by omega, by omega, fun j j1 j2 => ?_⟩
        have := List.find?_eq_none.1 hf j (mem_seg.2 ⟨j1, j2⟩)
        simpa using this
theorem firstK_spec {L n : Int} (hc : ∀ k, 1 ≤ k → k ≤ most → 0 ≤ c k ∧ c k ≤ 1000000) (hL : 1 ≤ L) (hn : n ≤ 100000) (h0 : 0 < n) (hr : ∃ p m, Reach c most L n p m) :
    L ≤ firstK c most L n ∧ firstK c most L n ≤ most ∧ firstK c most L n ≤ n ∧ good c most L n (firstK c most L n) = true ∧ (∀ j, L ≤ j → j < firstK c most L n → good c most L n j = false) ∧ ∃ p m, Reach c most (firstK c most L n) (n - firstK c most L n) p m := by
  obtain ⟨k, k1, k2, k3, k4⟩ := good_exists hc hL hn h0 hr
  cases hf : (seg L (cnt L most n)).find? (good c most L n) with
  | none => exact absurd (List.find?_eq_none.1 hf k (mem_ks.2 ⟨k1, k2, k3⟩)) (by simp [k4])
  | some x =>
    have he : firstK c most L n = x := by unfold firstK; rw [hf]; rfl
    obtain ⟨a1, a2, a3, a4⟩ := find_seg _ _ _ _ hf
    have hm := mem_ks.1 (mem_seg.2 ⟨a2, a3⟩ : x ∈ seg L (cnt L most n))
    rw [he]
    exact ⟨a2, hm.2.1, hm.2.2, a1, a4, (good_reach hc hL hn h0 hr a2 hm.2.1 a1).1⟩
def firstsF (c : Int → Int) (most : Int) : Nat → Int → Int → List Int
  | 0, _, _ => []
  | s + 1, L, n => if n ≤ 0 then [] else firstK c most L n :: firstsF c most s (firstK c most L n) (n - firstK c most L n)
def firsts (c : Int → Int) (most L n : Int) : List Int := firstsF c most n.toNat L n
theorem firsts_stable (hc : ∀ k, 1 ≤ k → k ≤ most → 0 ≤ c k ∧ c k ≤ 1000000) : ∀ (s : Nat) (L n : Int), 1 ≤ L → n ≤ 100000 → (∃ p m, Reach c most L n p m) → n.toNat ≤ s → firstsF c most s L n = firstsF c most n.toNat L n
  | 0, L, n, hL, hn, hr, hs => by
    have : n.toNat = 0 := by omega
    rw [this]
  | s + 1, L, n, hL, hn, hr, hs => by
    by_cases h0 : n ≤ 0
    · have : n.toNat = 0 := by omega
      rw [this, firstsF, firstsF, if_pos h0]
    · obtain ⟨m, hm⟩ : ∃ m, n.toNat = m + 1 := ⟨n.toNat - 1, by omega⟩
      obtain ⟨a1, a2, a3, a4, a5, a6⟩ := firstK_spec hc hL hn (by omega) hr
      rw [hm, firstsF, firstsF, if_neg h0, if_neg h0, firsts_stable hc s _ _ (by omega) (by omega) a6 (by omega), firsts_stable hc m _ _ (by omega) (by omega) a6 (by omega)]
theorem firsts_eq {L n : Int} (hc : ∀ k, 1 ≤ k → k ≤ most → 0 ≤ c k ∧ c k ≤ 1000000) (hL : 1 ≤ L) (hn : n ≤ 100000) (hr : ∃ p m, Reach c most L n p m) :
    firsts c most L n = if n ≤ 0 then [] else firstK c most L n :: firsts c most (firstK c most L n) (n - firstK c most L n) := by
  unfold firsts
  by_cases h0 : n ≤ 0
  · have : n.toNat = 0 := by omega
    rw [this, firstsF, if_pos h0]
  · obtain ⟨m, hm⟩ : ∃ m, n.toNat = m + 1 := ⟨n.toNat - 1, by omega⟩
    obtain ⟨a1, a2, a3, a4, a5, a6⟩ := firstK_spec hc hL hn (by omega) hr
    rw [hm, firstsF, if_neg h0, if_neg h0, firsts_stable hc m _ _ (by omega) (by omega) a6 (by omega)]
theorem firsts_len (hc : ∀ k, 1 ≤ k → k ≤ most → 0 ≤ c k ∧ c k ≤ 1000000) : ∀ (s : Nat) (L n : Int), n.toNat ≤ s → 1 ≤ L → n ≤ 100000 → (∃ p m, Reach c most L n p m) → (firsts c most L n).length ≤ n.toNat
  | s, L, n, hs, hL, hn, hr => by
    rw [firsts_eq hc hL hn hr]
    split
    · simp
    · next h0 =>
      obtain ⟨a1, a2, a3, a4, a5, a6⟩ := firstK_spec hc hL hn (by omega) hr
      rw [List.length_cons]
      match s with
      | 0 => omega
      | s + 1 =>
        have := firsts_len hc s (firstK c most L n) (n - firstK c most L n) (by omega) (by omega) (by omega) a6
        omega
end Go.Proofs.Ytolfcknnjggchaa.PReach
