/- Texts of this claim joined, in the order in which they build: PEat, PEat3, GEat0. -/
import Derived.Test.YtkoplphcdkmilaaK10
section
namespace Go.Proofs.Ytkoplphcdkmilaa.PEat
open Go.Proofs.Ytkoplphcdkmilaa.PCount
set_option linter.unusedVariables false

def lmin : List Int → Int
  | [] => -1
  | [x] => x
  | x :: y :: r => min x (lmin (y :: r))
theorem lmin_mem : ∀ {l : List Int}, l ≠ [] → lmin l ∈ l
  | [], h => absurd rfl h
  | [x], _ => by simp [lmin]
  | x :: y :: r, _ => by
    have ih := lmin_mem (l := y :: r) (by simp)
    have e : lmin (x :: y :: r) = min x (lmin (y :: r)) := rfl
    rw [e]
    by_cases h : x ≤ lmin (y :: r)
    · rw [show min x (lmin (y :: r)) = x by omega]; exact List.mem_cons_self
    · rw [show min x (lmin (y :: r)) = lmin (y :: r) by omega]; exact List.mem_cons_of_mem _ ih
theorem lmin_le : ∀ {l : List Int} {x : Int}, x ∈ l → lmin l ≤ x
  | [], _, h => by simp at h
  | [x], y, h => by
    have : y = x := by simpa using h
    subst this
    exact Int.le_refl _
  | x :: y :: r, z, h => by
    have e : lmin (x :: y :: r) = min x (lmin (y :: r)) := rfl
    rw [e]
    rcases List.mem_cons.1 h with rfl | h
    · omega
    · have := lmin_le (l := y :: r) h
      omega
def Least (S : Int → Prop) (v : Int) : Prop := S v ∧ ∀ x, S x → v ≤ x
theorem Least.one {S : Int → Prop} {v w : Int} (h : Least S v) (k : Least S w) : v = w := by
  have := h.2 _ k.1
  have := k.2 _ h.1
  omega
theorem Least.of_list {l : List Int} (h : l ≠ []) : Least (fun x => x ∈ l) (lmin l) := ⟨lmin_mem h, fun x hx => lmin_le hx⟩

def sq (p : Nat × Nat) : Nat := p.1 * p.2
def price (w h : Nat) (d : Bool) : Int := if d = true then ((h * h : Nat) : Int) else ((w * w : Nat) : Int)
def sums (E1 E2 : Nat → Int) (a1 a2 k : Nat) : List Int := (List.range (k + 1)).filterMap (fun i => if i ≤ a1 ∧ k - i ≤ a2 then some (E1 i + E2 (k - i)) else none)
theorem mem_sums {E1 E2 : Nat → Int} {a1 a2 k : Nat} {v : Int} : v ∈ sums E1 E2 a1 a2 k ↔ ∃ i, i ≤ k ∧ i ≤ a1 ∧ k - i ≤ a2 ∧ v = E1 i + E2 (k - i) := by
  unfold sums
  rw [List.mem_filterMap]
  constructor
  · rintro ⟨i, hi, h⟩
    rw [List.mem_range] at hi
    split at h
    · next hc => exact ⟨i, by omega, hc.1, hc.2, (Option.some.inj h).symm⟩
    · cases h
  · rintro ⟨i, h1, h2, h3, rfl⟩
    exact ⟨i, List.mem_range.2 (by omega), by rw [if_pos ⟨h2, h3⟩]⟩
theorem sums_some {E1 E2 : Nat → Int} {a1 a2 k : Nat} (h : k ≤ a1 + a2) : sums E1 E2 a1 a2 k ≠ [] := by
  intro he
  have : E1 (min k a1) + E2 (k - min k a1) ∈ sums E1 E2 a1 a2 k := mem_sums.2 ⟨min k a1, by omega, by omega, by omega, rfl⟩
  rw [he] at this
  simp at this
def EF : Nat → Nat → Nat → Nat → Int
  | 0, _, _, _ => 0
  | f + 1, w, h, k => if k = 0 ∨ w * h ≤ k then 0 else lmin ((cutsN w h).map (fun c => price w h c.1 + lmin (sums (fun i => EF f (one w h c).1 (one w h c).2 i) (fun i => EF f (two w h c).1 (two w h c).2 i) (sq (one w h c)) (sq (two w h c)) k)))
def E (w h k : Nat) : Int := EF (w + h) w h k
theorem EF_eq : ∀ (f g w h k : Nat), 1 ≤ w → 1 ≤ h → w + h ≤ f → w + h ≤ g → EF f w h k = EF g w h k
  | 0, _, _, _, _, h1, h2, h3, _ => by omega
  | f + 1, 0, _, _, _, h1, h2, _, h3 => by omega
  | f + 1, g + 1, w, h, k, hw, hh, hf, hg => by
    unfold EF
    split
    · rfl
    · congr 1
      refine map_congr_mem fun c hc => ?_
      obtain ⟨⟨a1, a2, a3, a4⟩, a5, a6, _⟩ := parts hc hw hh
      have e1 : (fun i => EF f (one w h c).1 (one w h c).2 i) = (fun i => EF g (one w h c).1 (one w h c).2 i) := funext fun i => EF_eq f g _ _ i a1 a2 (by omega) (by omega)
      have e2 : (fun i => EF f (two w h c).1 (two w h c).2 i) = (fun i => EF g (two w h c).1 (two w h c).2 i) := funext fun i => EF_eq f g _ _ i a3 a4 (by omega) (by omega)
      rw [e1, e2]
def SE (w h : Nat) (c : Bool × Nat) (k : Nat) : Int := lmin (sums (E (one w h c).1 (one w h c).2) (E (two w h c).1 (two w h c).2) (sq (one w h c)) (sq (two w h c)) k)
theorem E_end {w h k : Nat} (hk : k = 0 ∨ w * h ≤ k) : E w h k = 0 := by
  unfold E
  obtain ⟨f, hf⟩ : ∃ f, w + h = f := ⟨_, rfl⟩
  rw [hf]
  cases f with
  | zero => rfl
  | succ f => unfold EF; rw [if_pos hk]
theorem E_rec {w h k : Nat} (hw : 1 ≤ w) (hh : 1 ≤ h) (h0 : 0 < k) (h1 : k < w * h) : E w h k = lmin ((cutsN w h).map (fun c => price w h c.1 + SE w h c k)) := by
  obtain ⟨f, hf⟩ : ∃ f, w + h = f + 1 := ⟨w + h - 1, by omega⟩
  unfold E
  rw [hf]
  unfold EF
  rw [if_neg (by omega)]
  congr 1
  refine map_congr_mem fun c hc => ?_
  obtain ⟨⟨a1, a2, a3, a4⟩, a5, a6, _⟩ := parts hc hw hh
  have e1 : (fun i => EF f (one w h c).1 (one w h c).2 i) = E (one w h c).1 (one w h c).2 := funext fun i => EF_eq f _ _ _ i a1 a2 (by omega) (Nat.le_refl _)
  have e2 : (fun i => EF f (two w h c).1 (two w h c).2 i) = E (two w h c).1 (two w h c).2 := funext fun i => EF_eq f _ _ _ i a3 a4 (by omega) (Nat.le_refl _)
  rw [e1, e2]
  rfl
def Split (w h : Nat) (c : Bool × Nat) (k : Nat) (v : Int) : Prop := ∃ i, i ≤ k ∧ i ≤ sq (one w h c) ∧ k - i ≤ sq (two w h c) ∧ v = E (one w h c).1 (one w h c).2 i + E (two w h c).1 (two w h c).2 (k - i)
theorem SE_least {w h k : Nat} {c : Bool × Nat} (hc : c ∈ cutsN w h) (hw : 1 ≤ w) (hh : 1 ≤ h) (hk : k ≤ w * h) : Least (Split w h c k) (SE w h c k) := by
  obtain ⟨_, _, _, _, _, _, _, a7⟩ := parts hc hw hh
  have h1 := Least.of_list (l := sums (E (one w h c).1 (one w h c).2) (E (two w h c).1 (two w h c).2) (sq (one w h c)) (sq (two w h c)) k) (sums_some (by unfold sq; omega))
  refine ⟨mem_sums.1 h1.1, fun x hx => h1.2 x (mem_sums.2 hx)⟩
def Cand (w h k : Nat) (v : Int) : Prop := ∃ c, c ∈ cutsN w h ∧ ∃ u, Split w h c k u ∧ v = price w h c.1 + u
theorem E_least {w h k : Nat} (hw : 1 ≤ w) (hh : 1 ≤ h) (h0 : 0 < k) (h1 : k < w * h) : Least (Cand w h k) (E w h k) := by
  rw [E_rec hw hh h0 h1]
  obtain ⟨c0, hc0⟩ := cuts_some hw hh (by omega)
  have hl := Least.of_list (l := (cutsN w h).map (fun c => price w h c.1 + SE w h c k)) (by intro he; have := List.mem_map_of_mem (f := fun c => price w h c.1 + SE w h c k) hc0; rw [he] at this; simp at this)
  constructor
  · obtain ⟨c, hc, he⟩ := List.mem_map.1 hl.1
    exact ⟨c, hc, SE w h c k, (SE_least hc hw hh (by omega)).1, he.symm⟩
  · rintro x ⟨c, hc, u, hu, rfl⟩
    have h2 := hl.2 _ (List.mem_map_of_mem (f := fun c => price w h c.1 + SE w h c k) hc)
    have h3 := (SE_least hc hw hh (by omega)).2 u hu
    omega
theorem E_le_part {w h k : Nat} {c : Bool × Nat} (hc : c ∈ cutsN w h) (hw : 1 ≤ w) (hh : 1 ≤ h) (h0 : 0 < k) (h1 : k < w * h) : E w h k ≤ price w h c.1 + SE w h c k :=
  (E_least hw hh h0 h1).2 _ ⟨c, hc, _, (SE_least hc hw hh (by omega)).1, rfl⟩
theorem price_in {w h : Nat} (d : Bool) (hw : 1 ≤ w ∧ w ≤ 12) (hh : 1 ≤ h ∧ h ≤ 12) : 1 ≤ price w h d ∧ price w h d ≤ 144 := by
  unfold price
  split
  · have h1 : 1 ≤ h * h := Nat.mul_pos hh.1 hh.1
    have h2 : h * h ≤ 12 * 12 := Nat.mul_le_mul hh.2 hh.2
    omega
  · have h1 : 1 ≤ w * w := Nat.mul_pos hw.1 hw.1
    have h2 : w * w ≤ 12 * 12 := Nat.mul_le_mul hw.2 hw.2
    omega
theorem E_in : ∀ (s w h k : Nat), w + h ≤ s → 1 ≤ w → w ≤ 12 → 1 ≤ h → h ≤ 12 → 0 ≤ E w h k ∧ E w h k ≤ 144 * ((w * h : Nat) : Int) - 144 ∧ (0 < k → k < w * h → 1 ≤ E w h k)
  | 0, _, _, _, h0, hw, _, hh, _ => by omega
  | s + 1, w, h, k, h0, hw, hw2, hh, hh2 => by
    have hp : 1 ≤ w * h := Nat.mul_pos hw hh
    by_cases hk : k = 0 ∨ w * h ≤ k
    · rw [E_end hk]; omega
    · obtain ⟨⟨c, hc, u, ⟨i, i1, i2, i3, rfl⟩, he⟩, _⟩ := E_least (k := k) hw hh (by omega) (by omega)
      obtain ⟨⟨a1, a2, a3, a4⟩, a5, a6, b1, b2, b3, b4, b5⟩ := parts hc hw hh
      have e1 := E_in s _ _ i (by omega) a1 (by omega) a2 (by omega)
      have e2 := E_in s _ _ (k - i) (by omega) a3 (by omega) a4 (by omega)
      have e3 := price_in c.1 ⟨hw, hw2⟩ ⟨hh, hh2⟩
      rw [he]
      omega
theorem E_bound {w h : Nat} (k : Nat) (hw : 1 ≤ w ∧ w ≤ 12) (hh : 1 ≤ h ∧ h ≤ 12) : 0 ≤ E w h k ∧ E w h k ≤ 20736 := by
  have h1 := E_in (w + h) w h k (Nat.le_refl _) hw.1 hw.2 hh.1 hh.2
  have h2 : w * h ≤ 12 * 12 := Nat.mul_le_mul hw.2 hh.2
  omega
theorem E_pos {w h k : Nat} (hw : 1 ≤ w ∧ w ≤ 12) (hh : 1 ≤ h ∧ h ≤ 12) (h0 : 0 < k) (h1 : k < w * h) : 1 ≤ E w h k := (E_in (w + h) w h k (Nat.le_refl _) hw.1 hw.2 hh.1 hh.2).2.2 h0 h1
theorem SE_bound {w h k : Nat} {c : Bool × Nat} (hc : c ∈ cutsN w h) (hw : 1 ≤ w ∧ w ≤ 12) (hh : 1 ≤ h ∧ h ≤ 12) (hk : k ≤ w * h) : 0 ≤ SE w h c k ∧ SE w h c k ≤ 41472 := by
  obtain ⟨⟨i, i1, i2, i3, he⟩, _⟩ := SE_least hc hw.1 hh.1 hk
  obtain ⟨⟨a1, a2, a3, a4⟩, a5, a6, b1, b2, b3, b4, b5⟩ := parts hc hw.1 hh.1
  have e1 := E_bound i (w := (one w h c).1) (h := (one w h c).2) ⟨a1, by omega⟩ ⟨a2, by omega⟩
  have e2 := E_bound (k - i) (w := (two w h c).1) (h := (two w h c).2) ⟨a3, by omega⟩ ⟨a4, by omega⟩
  rw [he]
  omega

theorem left_le' : ∀ (s w h k : Nat), w + h ≤ s → 1 ≤ w → 1 ≤ h → k ≤ w * h → E w h (w * h - k) ≤ E w h k
  | 0, _, _, _, h0, hw, hh, _ => by omega
  | s + 1, w, h, k, h0, hw, hh, hk => by
    by_cases hk0 : k = 0 ∨ w * h ≤ k
    · rw [E_end hk0, E_end (by omega)]; exact Int.le_refl _
    · obtain ⟨⟨c, hc, u, ⟨i, i1, i2, i3, rfl⟩, he⟩, _⟩ := E_least (k := k) hw hh (by omega) (by omega)
      obtain ⟨⟨a1, a2, a3, a4⟩, a5, a6, b1, b2, b3, b4, b5⟩ := parts hc hw hh
      have e1 := left_le' s _ _ i (by omega) a1 a2 i2
      have e2 := left_le' s _ _ (k - i) (by omega) a3 a4 i3
      have h5 : sq (one w h c) + sq (two w h c) = w * h := b5
      have h6 := (E_least (k := w * h - k) hw hh (by omega) (by omega)).2 _ ⟨c, hc, _, ⟨sq (one w h c) - i, by omega, by omega, by omega, rfl⟩, rfl⟩
      rw [show w * h - k - (sq (one w h c) - i) = sq (two w h c) - (k - i) by omega] at h6
      unfold sq at h6
      rw [he]
      omega
theorem E_left {w h k : Nat} (hw : 1 ≤ w) (hh : 1 ≤ h) (hk : k ≤ w * h) : E w h (w * h - k) = E w h k := by
  have h1 := left_le' (w + h) w h k (Nat.le_refl _) hw hh hk
  have h2 := left_le' (w + h) w h (w * h - k) (Nat.le_refl _) hw hh (by omega)
  rw [show w * h - (w * h - k) = k by omega] at h2
  omega
theorem turn_cut {w h : Nat} {c : Bool × Nat} (hc : c ∈ cutsN w h) : ((!c.1, c.2) : Bool × Nat) ∈ cutsN h w ∧ one h w (!c.1, c.2) = ((one w h c).2, (one w h c).1) ∧ two h w (!c.1, c.2) = ((two w h c).2, (two w h c).1) ∧ price h w (!c.1) = price w h c.1 := by
  obtain ⟨d, n⟩ := c
  rw [mem_cutsN] at hc ⊢
  cases d <;> simpa [one, two, price] using hc
theorem turn_le : ∀ (s w h k : Nat), w + h ≤ s → 1 ≤ w → 1 ≤ h → E h w k ≤ E w h k
  | 0, _, _, _, h0, hw, hh => by omega
  | s + 1, w, h, k, h0, hw, hh => by
    by_cases hk0 : k = 0 ∨ w * h ≤ k
    · rw [E_end hk0, E_end (by rw [Nat.mul_comm]; exact hk0)]; exact Int.le_refl _
    · obtain ⟨⟨c, hc, u, ⟨i, i1, i2, i3, rfl⟩, he⟩, _⟩ := E_least (k := k) hw hh (by omega) (by omega)
      obtain ⟨⟨a1, a2, a3, a4⟩, a5, a6, b1, b2, b3, b4, b5⟩ := parts hc hw hh
      have e1 := turn_le s _ _ i (by omega) a1 a2
      have e2 := turn_le s _ _ (k - i) (by omega) a3 a4
      obtain ⟨t1, t2, t3, t4⟩ := turn_cut hc
      have hm : h * w = w * h := Nat.mul_comm _ _
      have h6 := (E_least (w := h) (h := w) (k := k) hh hw (by omega) (by omega)).2 _ ⟨_, t1, _, ⟨i, i1, by rw [t2]; unfold sq at i2 ⊢; rw [Nat.mul_comm]; exact i2, by rw [t3]; unfold sq at i3 ⊢; rw [Nat.mul_comm]; exact i3, rfl⟩, rfl⟩
      rw [t2, t3, t4] at h6
      rw [he]
      simp only at h6
      omega
theorem E_turn {w h : Nat} (k : Nat) (hw : 1 ≤ w) (hh : 1 ≤ h) : E h w k = E w h k := by
  have h1 := turn_le (w + h) w h k (Nat.le_refl _) hw hh
  have h2 := turn_le (h + w) h w k (Nat.le_refl _) hh hw
  omega

def less (a b : Int) : Int := if a < 0 then b else if b < a then b else a
def LeastO (S : Int → Prop) (v : Int) : Prop := (v = -1 ∧ ∀ x, ¬ S x) ∨ (0 ≤ v ∧ Least S v)
theorem LeastO.step {S T : Int → Prop} {v b : Int} (h : LeastO S v) (hb : 0 ≤ b) (hT : ∀ x, T x ↔ S x ∨ x = b) : LeastO T (less v b) := by
  unfold less
  rcases h with ⟨rfl, h⟩ | ⟨h0, h1, h2⟩
  · rw [if_pos (by omega)]
    refine .inr ⟨hb, (hT b).2 (.inr rfl), fun x hx => ?_⟩
    rcases (hT x).1 hx with h3 | rfl
    · exact absurd h3 (h x)
    · exact Int.le_refl _
  · rw [if_neg (by omega)]
    by_cases hc : b < v
    · rw [if_pos hc]
      refine .inr ⟨hb, (hT b).2 (.inr rfl), fun x hx => ?_⟩
      rcases (hT x).1 hx with h3 | rfl
      · have := h2 x h3; omega
      · exact Int.le_refl _
    · rw [if_neg hc]
      refine .inr ⟨h0, (hT v).2 (.inl h1), fun x hx => ?_⟩
      rcases (hT x).1 hx with h3 | rfl
      · exact h2 x h3
      · omega
theorem LeastO.full {S : Int → Prop} {v w : Int} (h : LeastO S v) (k : Least S w) : v = w := by
  rcases h with ⟨_, h⟩ | ⟨_, h⟩
  · exact absurd k.1 (h w)
  · exact h.one k
def accE (w h k n : Nat) : Int := ((cutsN w h).take n).foldl (fun a c => less a (SE w h c k + price w h c.1)) (-1)
theorem accE_succ {w h k n : Nat} {c : Bool × Nat} (hc : (cutsN w h)[n]? = some c) : accE w h k (n + 1) = less (accE w h k n) (SE w h c k + price w h c.1) := by
  obtain ⟨hn, rfl⟩ := List.getElem?_eq_some_iff.1 hc
  unfold accE
  rw [List.take_succ_eq_append_getElem hn, List.foldl_append]
  rfl
theorem accE_least {w h k : Nat} (hw : 1 ≤ w ∧ w ≤ 12) (hh : 1 ≤ h ∧ h ≤ 12) (hk : k ≤ w * h) : ∀ n, n ≤ (cutsN w h).length → LeastO (fun x => ∃ c, c ∈ (cutsN w h).take n ∧ x = SE w h c k + price w h c.1) (accE w h k n)
  | 0, _ => .inl ⟨rfl, fun x ⟨c, h, _⟩ => by simp at h⟩
  | n + 1, hn => by
    have ih := accE_least hw hh hk n (by omega)
    rw [accE_succ (List.getElem?_eq_getElem (by omega))]
    have hm : (cutsN w h)[n] ∈ cutsN w h := List.getElem_mem _
    have hb1 := SE_bound hm hw hh hk
    have hb2 := price_in (cutsN w h)[n].1 hw hh
    refine ih.step (by omega) fun x => ?_
    rw [List.take_succ_eq_append_getElem (by omega)]
    constructor
    · rintro ⟨c, hc, rfl⟩
      rcases List.mem_append.1 hc with hc | hc
      · exact .inl ⟨c, hc, rfl⟩
      · have : c = (cutsN w h)[n] := by simpa using hc
        exact .inr (by rw [this])
    · rintro (⟨c, hc, rfl⟩ | rfl)
      · exact ⟨c, List.mem_append_left _ hc, rfl⟩
      · exact ⟨_, List.mem_append_right _ (by simp), rfl⟩
theorem accE_full {w h k n : Nat} (hw : 1 ≤ w ∧ w ≤ 12) (hh : 1 ≤ h ∧ h ≤ 12) (h0 : 0 < k) (h1 : k < w * h) (hn : n = (cutsN w h).length) : accE w h k n = E w h k := by
  have ha := accE_least hw hh (k := k) (by omega) n (by omega)
  rw [hn, List.take_length] at ha
  rw [hn]
  refine ha.full ?_
  have he := E_least hw.1 hh.1 h0 h1
  constructor
  · obtain ⟨⟨c, hc, u, hu, h2⟩, h3⟩ := he
    have h4 := (SE_least hc hw.1 hh.1 (k := k) (by omega))
    have h5 := h4.2 u hu
    have h6 := h3 _ ⟨c, hc, _, h4.1, rfl⟩
    exact ⟨c, hc, by omega⟩
  · rintro x ⟨c, hc, rfl⟩
    have := E_le_part hc hw.1 hh.1 h0 h1
    omega
theorem accE_in {w h k n : Nat} (hw : 1 ≤ w ∧ w ≤ 12) (hh : 1 ≤ h ∧ h ≤ 12) (hk : k ≤ w * h) (hn : n ≤ (cutsN w h).length) : -1 ≤ accE w h k n ∧ accE w h k n ≤ 50000 := by
  rcases accE_least hw hh hk n hn with ⟨h1, _⟩ | ⟨h0, ⟨c, hc, h1⟩, _⟩
  · omega
  · have hm := List.mem_of_mem_take hc
    have hb1 := SE_bound hm hw hh hk
    have hb2 := price_in c.1 hw hh
    omega
end Go.Proofs.Ytkoplphcdkmilaa.PEat
end
section
namespace Go.Proofs.Ytkoplphcdkmilaa.PEat
open Go.Proofs.Ytkoplphcdkmilaa.PCount
set_option linter.unusedVariables false

def Seen (n i0 k0 m i k : Nat) : Prop := m < n ∨ (m = n ∧ (i < i0 ∨ (i = i0 ∧ k < k0)))
def Pt (w h n i0 k0 t : Nat) (x : Int) : Prop := ∃ m c i k, (cutsN w h)[m]? = some c ∧ i ≤ sq (one w h c) ∧ k ≤ sq (two w h c) ∧ i + k = t ∧ Seen n i0 k0 m i k ∧ x = price w h c.1 + E (one w h c).1 (one w h c).2 i + E (two w h c).1 (two w h c).2 k
def Low (w h n i0 k0 : Nat) (f : Nat → Int) : Prop := f 0 = 0 ∧ f (w * h) = 0 ∧ ∀ t, 0 < t → t < w * h → LeastO (Pt w h n i0 k0 t) (f t)
theorem LeastO.congr {S T : Int → Prop} {v : Int} (h : LeastO S v) (hT : ∀ x, T x ↔ S x) : LeastO T v := by
  rcases h with ⟨h1, h2⟩ | ⟨h1, h2, h3⟩
  · exact .inl ⟨h1, fun x hx => h2 x ((hT x).1 hx)⟩
  · exact .inr ⟨h1, (hT v).2 h2, fun x hx => h3 x ((hT x).1 hx)⟩
theorem Low.start {w h : Nat} : Low w h 0 0 0 (fun k => if k = 0 ∨ w * h ≤ k then 0 else -1) := by
  refine ⟨by simp, by simp, fun t h0 h1 => .inl ⟨by simp only; rw [if_neg (by omega)], ?_⟩⟩
  rintro x ⟨m, c, i, k, _, _, _, _, hs, _⟩
  unfold Seen at hs
  omega
theorem Low.imp {w h n i0 k0 n' i0' k0' : Nat} {f : Nat → Int} (hl : Low w h n i0 k0 f) (hs : ∀ m c i k, (cutsN w h)[m]? = some c → i ≤ sq (one w h c) → k ≤ sq (two w h c) → (Seen n' i0' k0' m i k ↔ Seen n i0 k0 m i k)) : Low w h n' i0' k0' f := by
  obtain ⟨h1, h2, h3⟩ := hl
  refine ⟨h1, h2, fun t a b => (h3 t a b).congr fun x => ?_⟩
  constructor
  · rintro ⟨m, c, i, k, e1, e2, e3, e4, e5, e6⟩
    exact ⟨m, c, i, k, e1, e2, e3, e4, (hs m c i k e1 e2 e3).1 e5, e6⟩
  · rintro ⟨m, c, i, k, e1, e2, e3, e4, e5, e6⟩
    exact ⟨m, c, i, k, e1, e2, e3, e4, (hs m c i k e1 e2 e3).2 e5, e6⟩
theorem Low.row {w h n i0 : Nat} {c : Bool × Nat} {f : Nat → Int} (hc : (cutsN w h)[n]? = some c) (hl : Low w h n i0 (sq (two w h c) + 1) f) : Low w h n (i0 + 1) 0 f :=
  hl.imp fun m c' i k e1 e2 e3 => by
    unfold Seen
    by_cases hm : m = n
    · subst hm
      rw [hc] at e1
      injection e1 with e1
      subst e1
      omega
    · omega
theorem Low.break_ {w h n : Nat} {c : Bool × Nat} {f : Nat → Int} (hc : (cutsN w h)[n]? = some c) (hl : Low w h n (sq (one w h c) + 1) 0 f) : Low w h (n + 1) 0 0 f :=
  hl.imp fun m c' i k e1 e2 e3 => by
    unfold Seen
    by_cases hm : m = n
    · subst hm
      rw [hc] at e1
      injection e1 with e1
      subst e1
      omega
    · omega
theorem Low.step {w h n i0 k0 : Nat} {c : Bool × Nat} {f : Nat → Int} (hw : 1 ≤ w ∧ w ≤ 12) (hh : 1 ≤ h ∧ h ≤ 12) (hc : (cutsN w h)[n]? = some c) (hi : i0 ≤ sq (one w h c)) (hk : k0 ≤ sq (two w h c)) (hl : Low w h n i0 k0 f) (own : Int)
    (ho : own = price w h c.1 + E (one w h c).1 (one w h c).2 i0 + E (two w h c).1 (two w h c).2 k0) (g : Nat → Int) (hg : ∀ t, g t = if t = i0 + k0 ∧ (f t < 0 ∨ own < f t) then own else f t) : Low w h n i0 (k0 + 1) g := by
  have hm : c ∈ cutsN w h := List.mem_of_getElem? hc
  obtain ⟨⟨a1, a2, a3, a4⟩, a5, a6, b1, b2, b3, b4, b5⟩ := parts hm hw.1 hh.1
  have e1 := E_bound i0 (w := (one w h c).1) (h := (one w h c).2) ⟨a1, by omega⟩ ⟨a2, by omega⟩
  have e2 := E_bound k0 (w := (two w h c).1) (h := (two w h c).2) ⟨a3, by omega⟩ ⟨a4, by omega⟩
  have e3 := price_in c.1 hw hh
  obtain ⟨h1, h2, h3⟩ := hl
  have hown : 1 ≤ own := by omega
  refine ⟨?_, ?_, fun t h0 ht => ?_⟩
  · rw [hg, h1, if_neg (by omega)]
  · rw [hg, h2, if_neg (by omega)]
  · have hP : ∀ x, Pt w h n i0 (k0 + 1) t x ↔ Pt w h n i0 k0 t x ∨ (t = i0 + k0 ∧ x = own) := by
      intro x
      constructor
      · rintro ⟨m, c', i, k, q1, q2, q3, q4, q5, q6⟩
        unfold Seen at q5
        by_cases hx : m = n ∧ i = i0 ∧ k = k0
        · obtain ⟨rfl, rfl, rfl⟩ := hx
          rw [hc] at q1
          injection q1 with q1
          subst q1
          exact .inr ⟨q4.symm, by rw [q6, ho]⟩
        · exact .inl ⟨m, c', i, k, q1, q2, q3, q4, by unfold Seen; omega, q6⟩
      · rintro (⟨m, c', i, k, q1, q2, q3, q4, q5, q6⟩ | ⟨rfl, rfl⟩)
        · exact ⟨m, c', i, k, q1, q2, q3, q4, by unfold Seen at q5 ⊢; omega, q6⟩
        · exact ⟨n, c, i0, k0, hc, hi, hk, rfl, by unfold Seen; omega, ho⟩
    rw [hg]
    by_cases he : t = i0 + k0
    · have := (h3 t h0 ht).step (T := Pt w h n i0 (k0 + 1) t) (b := own) (by omega) (fun x => by rw [hP]; simp [he])
      unfold less at this
      by_cases hf : f t < 0
      · rw [if_pos hf] at this
        rw [if_pos ⟨he, .inl hf⟩]
        exact this
      · rw [if_neg hf] at this
        by_cases ho2 : own < f t
        · rw [if_pos ho2] at this
          rw [if_pos ⟨he, .inr ho2⟩]
          exact this
        · rw [if_neg ho2] at this
          rw [if_neg (by rintro ⟨_, h | h⟩ <;> omega)]
          exact this
    · rw [if_neg (fun h => he h.1)]
      exact (h3 t h0 ht).congr fun x => by rw [hP]; simp [he]
theorem Low.full {w h n : Nat} {f : Nat → Int} (hw : 1 ≤ w ∧ w ≤ 12) (hh : 1 ≤ h ∧ h ≤ 12) (hn : n = (cutsN w h).length) (hl : Low w h n 0 0 f) (t : Nat) (ht : t ≤ w * h) : f t = E w h t := by
  obtain ⟨h1, h2, h3⟩ := hl
  by_cases h0 : t = 0
  · rw [h0, h1, E_end (.inl rfl)]
  · by_cases h4 : t = w * h
    · rw [h4, h2, E_end (.inr (Nat.le_refl _))]
    · refine (h3 t (by omega) (by omega)).full ?_
      have hE := E_least hw.1 hh.1 (k := t) (by omega) (by omega)
      constructor
      · obtain ⟨c, hc, u, ⟨i, i1, i2, i3, rfl⟩, he⟩ := hE.1
        obtain ⟨m, hm, rfl⟩ := List.mem_iff_getElem.1 hc
        exact ⟨m, _, i, t - i, List.getElem?_eq_getElem hm, i2, i3, by omega, by unfold Seen; omega, by rw [he]; omega⟩
      · rintro x ⟨m, c, i, k, q1, q2, q3, rfl, q5, rfl⟩
        have hm : c ∈ cutsN w h := List.mem_of_getElem? q1
        exact hE.2 _ ⟨c, hm, _, ⟨i, by omega, q2, by omega, rfl⟩, by rw [show i + k - i = k by omega]; omega⟩
theorem Low.bound {w h n i0 k0 : Nat} {f : Nat → Int} (hw : 1 ≤ w ∧ w ≤ 12) (hh : 1 ≤ h ∧ h ≤ 12) (hl : Low w h n i0 k0 f) (t : Nat) (ht : t ≤ w * h) : -1 ≤ f t ∧ f t ≤ 50000 := by
  obtain ⟨h1, h2, h3⟩ := hl
  by_cases h0 : t = 0
  · rw [h0, h1]; omega
  · by_cases h4 : t = w * h
    · rw [h4, h2]; omega
    · rcases h3 t (by omega) (by omega) with ⟨e, _⟩ | ⟨e1, ⟨m, c, i, k, q1, q2, q3, q4, q5, q6⟩, _⟩
      · omega
      · have hm : c ∈ cutsN w h := List.mem_of_getElem? q1
        obtain ⟨⟨a1, a2, a3, a4⟩, a5, a6, b1, b2, b3, b4, b5⟩ := parts hm hw.1 hh.1
        have e1 := E_bound i (w := (one w h c).1) (h := (one w h c).2) ⟨a1, by omega⟩ ⟨a2, by omega⟩
        have e2 := E_bound k (w := (two w h c).1) (h := (two w h c).2) ⟨a3, by omega⟩ ⟨a4, by omega⟩
        have e3 := price_in c.1 hw hh
        omega
end Go.Proofs.Ytkoplphcdkmilaa.PEat
end
section
namespace Go.Proofs.Ytkoplphcdkmilaa.GEat
open Go.RowKit Go.Proofs.YtkoplphcdkmilaaW.PrintWords Go.Proofs.YtkoplphcdkmilaaW.PrintLast Go.Proofs.YtkoplphcdkmilaaW.PrintMore Go.Maps Go.Proofs.Ytkoplphcdkmilaa.GBar Go.Proofs.Ytkoplphcdkmilaa.GTab Go.Proofs.Ytkoplphcdkmilaa.PEat
set_option linter.unusedVariables false
set_option linter.unusedSimpArgs false

def RE (v : Value) : Option (DataW Unit × List MemPlace) := match v with
  | .slice (some a) n c => match a.spot with
    | none => some (.agg [.lit (.int .i64 a.block), .lit (.int .i64 a.off), .lit (.int .i64 n), .lit (.int .i64 c)], [])
    | some _ => none
  | .slice none 0 0 => some (.nil, [])
  | _ => none
def rowD (g n : Nat) : DataW Unit := .agg [.lit (.int .i64 g), .lit (.int .i64 ((0 : Nat) : Int)), .lit (.int .i64 n), .lit (.int .i64 n)]
theorem RE_row (g n : Nat) : RE (.slice (some ⟨g, 0, none⟩) n n) = some (rowD g n, []) := rfl
theorem RE_nil : RE (.slice none 0 0) = some (.nil, []) := rfl
theorem RE_inv {v : Value} {g n : Nat} {ps : List MemPlace} (h : RE v = some (rowD g n, ps)) : v = .slice (some ⟨g, 0, none⟩) n n := by
  unfold RE at h
  split at h
  · next a m c =>
    split at h
    · next hs =>
      unfold rowD at h
      simp at h
      obtain ⟨⟨h1, h2, h3, h4⟩, _⟩ := h
      obtain ⟨b, o, s⟩ := a
      simp only at hs h1 h2
      obtain rfl : b = g := by omega
      obtain rfl : m = n := by omega
      obtain rfl : c = m := by omega
      rw [hs, h2]
    · cases h
  · unfold rowD at h; simp at h
  · cases h
theorem rowD_inj {g n g' n' : Nat} (h : rowD g n = rowD g' n') : g = g' := by
  unfold rowD at h
  simp at h
  have := h.1
  omega
def CostRow (W : World) (a b : Int) (g : Nat) : Prop := Row 3 (a.toNat * b.toNat + 1) (fun _ => True) (fun k => .int .i64 (E a.toNat b.toNat k)) W g
def GoodE (W : World) (a b : Int) (d : DataW Unit) : Prop := ∃ g, d = rowD g (a.toNat * b.toNat + 1) ∧ CostRow W a b g
def MemoE (W : World) (bm : Nat) : Prop := Memo RE .nil GoodE W bm
def FreeN (W : World) (bm N : Nat) : Prop := ∀ n D, W.ownsMap Try.prog 25 RE bm n D → ∀ a b, okB a b → Maps.has D (key a b) = true → ∀ m, D.atKey (key a b) .nil ≠ rowD N m
theorem FreeN.of {W : World} {bm N n : Nat} {D : DataW Unit} (ho : W.ownsMap Try.prog 25 RE bm n D) (h : ∀ a b, okB a b → Maps.has D (key a b) = true → ∀ m, D.atKey (key a b) .nil ≠ rowD N m) : FreeN W bm N := fun n' D' ho' => by
  rw [← owns_one ho ho']
  exact h
theorem FreeN.kept {W W' : World} {bm N : Nat} {row : Option Nat} (h : FreeN W bm N) (hm : MemoE W bm) (hg : W.grownBy W' row) (hne : some bm ≠ row) : FreeN W' bm N := by
  obtain ⟨n, D, ho, _⟩ := hm
  exact FreeN.of (ho.kept hg hne) (h n D ho)
theorem row_ne_map {W : World} {e n n' bm g : Nat} {p : Nat → Prop} {v : Nat → Value} {D : DataW Unit} (hr : Row e n p v W g) (ho : W.ownsMap Try.prog 25 RE bm n' D) : g ≠ bm := by
  intro he
  subst he
  obtain ⟨cs, h1, _⟩ := hr
  obtain ⟨es, cl, h2, _⟩ := ho
  rw [h1] at h2
  cases h2
theorem MemoE.new {W W' : World} {bm : Nat} (h : MemoE W bm) (hg : W.grownBy W' none) : MemoE W' bm :=
  Memo.kept h hg (by simp) (fun a b d ⟨g, h1, h2⟩ => ⟨g, h1, h2.new hg⟩)
theorem MemoE.set {W W' : World} {bm N : Nat} (h : MemoE W bm) (hf : FreeN W bm N) (hg : W.grownBy W' (some N)) (hN : N ≠ bm) : MemoE W' bm := by
  obtain ⟨n, D, h1, h2, h3⟩ := h
  refine ⟨n, D, h1.kept hg (by simp; omega), h2, fun a b ho hh => ?_⟩
  obtain ⟨g, h4, h5⟩ := h3 a b ho hh
  refine ⟨g, h4, h5.kept hg ?_⟩
  intro he
  injection he with he
  subst he
  exact hf n D h1 a b ho hh _ h4
structure GotE (bm : Nat) (a b : Int) (W w : World) (g : Nat) : Prop where
  m : MemoE w bm
  gr : W.grownBy w (some bm)
  far : ∀ a' b', okB a' b' → a + b < a' + b' → Absent RE W bm a' b' → Absent RE w bm a' b'
  fo : ∀ N, N < W.heap.size → FreeN W bm N → FreeN w bm N
  row : CostRow w a b g
  inn : ∀ N, FreeN w bm N → g ≠ N
structure StE (bm N : Nat) (a b : Int) (W w : World) : Prop where
  m : MemoE w bm
  ab : Absent RE w bm a b
  far : ∀ a' b', okB a' b' → a + b < a' + b' → Absent RE W bm a' b' → Absent RE w bm a' b'
  g : W.grownBy w (some bm)
  fr : FreeN w bm N
  fo : ∀ N', N' < W.heap.size → FreeN W bm N' → FreeN w bm N'
  lt : N < w.heap.size
  ge : W.heap.size ≤ N
  bl : bm < W.heap.size
variable {bm N : Nat} {a b : Int} {W w w' : World}
theorem StE.new (h : StE bm N a b W w) (hg : w.grownBy w' none) : StE bm N a b W w' :=
  ⟨h.m.new hg, h.ab.kept hg (by simp), fun a' b' h1 h2 h3 => (h.far a' b' h1 h2 h3).kept hg (by simp), World.grownBy.trans h.g (grown_none hg _), h.fr.kept h.m hg (by simp), fun N' h1 h2 => (h.fo N' h1 h2).kept h.m hg (by simp), Nat.lt_of_lt_of_le h.lt hg.size, h.ge, h.bl⟩
theorem StE.set (h : StE bm N a b W w) (hg : w.grownBy w' (some N)) : StE bm N a b W w' := by
  have hN : N ≠ bm := by have := h.ge; have := h.bl; omega
  exact ⟨h.m.set h.fr hg hN, h.ab.kept hg (by simp; omega), fun a' b' h1 h2 h3 => (h.far a' b' h1 h2 h3).kept hg (by simp; omega), grown_far h.g hg h.ge, h.fr.kept h.m hg (by simp; omega), fun N' h1 h2 => (h.fo N' h1 h2).kept h.m hg (by simp; omega), Nat.lt_of_lt_of_le h.lt hg.size, h.ge, h.bl⟩
theorem StE.call (h : StE bm N a b W w) {x y : Int} {g : Nat} (hc : GotE bm x y w w' g) (hok : okB a b) (hlt : x + y < a + b) : StE bm N a b W w' :=
  ⟨hc.m, hc.far a b hok hlt h.ab, fun a' b' h1 h2 h3 => hc.far a' b' h1 (by omega) (h.far a' b' h1 h2 h3), World.grownBy.trans h.g hc.gr, hc.fo N h.lt h.fr, fun N' h1 h2 => hc.fo N' (Nat.lt_of_lt_of_le h1 h.g.size) (h.fo N' h1 h2), Nat.lt_of_lt_of_le h.lt hc.gr.size, h.ge, h.bl⟩
theorem CostRow.ne {W : World} {x y : Int} {g bm : Nat} (hr : CostRow W x y g) (hm : MemoE W bm) : g ≠ bm := by
  obtain ⟨n, D, ho, _⟩ := hm
  exact row_ne_map hr ho
abbrev HdE (bm N : Nat) (a b : Int) (W w6 : World) (nb n11 n12 n13 : Nat) (d x1 y1 x2 y2 : Value) (w' : World) : Prop :=
  w'.cell? ⟨nb, 0, none⟩ = some (.int .i64 a) ∧ w'.cell? ⟨nb, 1, none⟩ = some (.int .i64 b) ∧ w'.cell? ⟨n11, 0, none⟩ = some d ∧ w'.cell? ⟨n12, 0, none⟩ = some x1 ∧ w'.cell? ⟨n12, 1, none⟩ = some y1 ∧ w'.cell? ⟨n13, 0, none⟩ = some x2 ∧ w'.cell? ⟨n13, 1, none⟩ = some y2 ∧ StE bm N a b W w' ∧ w6.grownBy w' (some bm)
variable {w6 : World} {nb n11 n12 n13 : Nat} {d x1 y1 x2 y2 : Value} {w'' : World}
theorem HdE.new (h : HdE bm N a b W w6 nb n11 n12 n13 d x1 y1 x2 y2 w') (hg : w'.grownBy w'' none) : HdE bm N a b W w6 nb n11 n12 n13 d x1 y1 x2 y2 w'' :=
  ⟨cell_grown h.1 hg (by simp), cell_grown h.2.1 hg (by simp), cell_grown h.2.2.1 hg (by simp), cell_grown h.2.2.2.1 hg (by simp), cell_grown h.2.2.2.2.1 hg (by simp), cell_grown h.2.2.2.2.2.1 hg (by simp), cell_grown h.2.2.2.2.2.2.1 hg (by simp), h.2.2.2.2.2.2.2.1.new hg, World.grownBy.trans h.2.2.2.2.2.2.2.2 (grown_none hg _)⟩
theorem HdE.call (h : HdE bm N a b W w6 nb n11 n12 n13 d x1 y1 x2 y2 w') (h0 : nb ≠ bm) (h1 : n11 ≠ bm) (h2 : n12 ≠ bm) (h3 : n13 ≠ bm) {x y : Int} {g : Nat} (hc : GotE bm x y w' w'' g) (hok : okB a b) (hlt : x + y < a + b) : HdE bm N a b W w6 nb n11 n12 n13 d x1 y1 x2 y2 w'' :=
  ⟨cell_grown h.1 hc.gr (by simp; exact h0), cell_grown h.2.1 hc.gr (by simp; exact h0), cell_grown h.2.2.1 hc.gr (by simp; exact h1), cell_grown h.2.2.2.1 hc.gr (by simp; exact h2), cell_grown h.2.2.2.2.1 hc.gr (by simp; exact h2), cell_grown h.2.2.2.2.2.1 hc.gr (by simp; exact h3), cell_grown h.2.2.2.2.2.2.1 hc.gr (by simp; exact h3), h.2.2.2.2.2.2.2.1.call hc hok hlt, World.grownBy.trans h.2.2.2.2.2.2.2.2 hc.gr⟩
def Kept2 (x y : Nat) (w w' : World) : Prop := w.heap.size ≤ w'.heap.size ∧ ∀ i o, i ≠ x → i ≠ y → w.heap[i]? = some o → w'.heap[i]? = some o
theorem Kept2.refl (x y : Nat) (w : World) : Kept2 x y w w := ⟨Nat.le_refl _, fun _ _ _ _ h => h⟩
theorem Kept2.of {x y : Nat} {w w' : World} {row : Option Nat} (hg : w.grownBy w' row) (hr : ∀ r, row = some r → r = x ∨ r = y) : Kept2 x y w w' :=
  ⟨hg.size, fun i o hx hy ho => blk_grown' ho hg (fun e => by have := hr i e.symm; omega)⟩
theorem Kept2.trans {x y : Nat} {w w' w'' : World} (h : Kept2 x y w w') (k : Kept2 x y w' w'') : Kept2 x y w w'' :=
  ⟨Nat.le_trans h.1 k.1, fun i o hx hy ho => k.2 i o hx hy (h.2 i o hx hy ho)⟩
theorem Kept2.cell {x y : Nat} {w w' : World} {p : Addr} {v : Value} (h : Kept2 x y w w') (hx : p.block ≠ x) (hy : p.block ≠ y) (hc : w.cell? p = some v) : w'.cell? p = some v := by
  have hlt := World.block_lt_of_cell? w p hc
  have hb := h.2 p.block w.heap[p.block] hx hy (by simp [hlt])
  have hw : w.heap[p.block]? = some w.heap[p.block] := by simp [hlt]
  rw [← hc]
  unfold World.cell?
  rw [hb, hw]
end Go.Proofs.Ytkoplphcdkmilaa.GEat
end
