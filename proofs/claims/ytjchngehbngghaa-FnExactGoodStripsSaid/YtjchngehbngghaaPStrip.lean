/- Plain facts on strips: the places of moves, the choice among moves, the table of plays. Conditions: as each law states them. -/
import Derived.Test.YtjchngehbngghaaWWords
import Derived.Test.YtjchngehbngghaaPEv
namespace Go.Proofs.Ytjchngehbngghaa.PStrip
open Go.RowKit Go.Proofs.YtjchngehbngghaaW.PrintWords Go.Proofs.Ytjchngehbngghaa.PEv
set_option linter.unusedSimpArgs false
set_option linter.unusedVariables false

/-- Whether a strip can be broken at a place. -/
def can (least : Int) (u : Bool) (n i : Int) : Bool := decide (least ≤ i) && decide (least ≤ n - i) && (!u || decide (2 * i ≠ n))
/-- The places of moves from i, at most d of them looked at. -/
def mvs (least : Int) (u : Bool) (n : Int) : Nat → Int → List Int
  | 0, _ => []
  | d + 1, i => if 2 * i ≤ n then (if can least u n i = true then i :: mvs least u n d (i + 1) else mvs least u n d (i + 1)) else []
theorem mvs_mem {least : Int} {u : Bool} {n : Int} : ∀ (d : Nat) (i x : Int), x ∈ mvs least u n d i → i ≤ x ∧ 2 * x ≤ n
  | 0, _, _, h => by simp [mvs] at h
  | d + 1, i, x, h => by
    rw [mvs] at h
    split at h
    · split at h
      · rcases List.mem_cons.1 h with rfl | h
        · omega
        · have := mvs_mem d (i + 1) x h; omega
      · have := mvs_mem d (i + 1) x h; omega
    · simp at h
theorem mvs_length {least : Int} {u : Bool} {n : Int} : ∀ (d : Nat) (i : Int), (mvs least u n d i).length ≤ d
  | 0, _ => by simp [mvs]
  | d + 1, i => by
    have := mvs_length (least := least) (u := u) (n := n) d (i + 1)
    rw [mvs]
    split
    · split
      · simp; omega
      · omega
    · simp
/-- The move that is chosen. -/
def pick (better : Int → Int → Bool) (val : Int → Int) : Option Int → List Int → Option Int
  | s, [] => s
  | s, a :: r => pick better val (match s with | none => some (val a) | some b => some (if better (val a) b then val a else b)) r
theorem pick_nil (better : Int → Int → Bool) (val : Int → Int) (s : Option Int) : pick better val s [] = s := by cases s <;> rfl
theorem pick_cons (better : Int → Int → Bool) (val : Int → Int) (s : Option Int) (a : Int) (r : List Int) : pick better val s (a :: r) = pick better val (match s with | none => some (val a) | some b => some (if better (val a) b then val a else b)) r := by cases s <;> rfl
theorem pick_in {better : Int → Int → Bool} {val : Int → Int} {M : Int} : ∀ (l : List Int) (s : Option Int), (∀ a ∈ l, 0 ≤ val a ∧ val a ≤ M) → (∀ b, s = some b → 0 ≤ b ∧ b ≤ M) → ∀ b, pick better val s l = some b → 0 ≤ b ∧ b ≤ M
  | [], s, _, h2, b, h => h2 b h
  | a :: r, s, h1, h2, b, h => by
    refine pick_in r _ (fun x hx => h1 x (by simp [hx])) ?_ b h
    intro c hc
    have ha := h1 a (by simp)
    cases s with
    | none => simp only [Option.some.injEq] at hc; subst hc; exact ha
    | some d =>
      simp only [Option.some.injEq] at hc
      subst hc
      have := h2 d rfl
      split <;> omega
theorem rd_app {l : List Int} {v : Int} {j : Int} (h0 : 0 ≤ j) : rd (l ++ [v]) j = if j < (l.length : Int) then rd l j else if j = (l.length : Int) then v else 0 := by
  unfold rd
  rw [List.getD_eq_getElem?_getD, List.getD_eq_getElem?_getD, List.getElem?_append]
  split
  · rw [if_pos (by omega)]
  · rw [if_neg (by omega)]
    split
    · rw [show j.toNat - l.length = 0 by omega]; simp
    · have : j.toNat - l.length ≠ 0 := by omega
      obtain ⟨q, hq⟩ := Nat.exists_eq_succ_of_ne_zero this
      rw [hq]; simp
theorem rd_set {T : List Int} {i j v : Int} (hj0 : 0 ≤ j) (hj : j < (T.length : Int)) (hi0 : 0 ≤ i) : rd (T.set j.toNat v) i = if i = j then v else rd T i := by
  unfold rd
  rw [List.getD_eq_getElem?_getD, List.getD_eq_getElem?_getD, List.getElem?_set]
  by_cases h : i = j
  · subst h
    have : i.toNat < T.length := by omega
    simp [this]
  · have : j.toNat ≠ i.toNat := by omega
    simp [h, this]
theorem rd_rep (m : Nat) (j : Int) : rd (List.replicate m (0 : Int)) j = 0 := by
  unfold rd
  rw [List.getD_eq_getElem?_getD]
  by_cases h : j.toNat < m
  · simp [h]
  · simp [h]
/-- The numbers of moves of the plays with strips of 0, 1, .., m. -/
def pval (out : List Int) (n a : Int) : Int := rd out a + rd out (n - a) + 1
def bestOf (better : Int → Int → Bool) (least : Int) (u : Bool) (out : List Int) (n : Int) : Int := (pick better (pval out n) none (mvs least u n 60 1)).getD 0
def xs (better : Int → Int → Bool) (least : Int) (u : Bool) : Nat → List Int
  | 0 => [0]
  | m + 1 => xs better least u m ++ [bestOf better least u (xs better least u m) (m + 1)]
theorem xs_length (better : Int → Int → Bool) (least : Int) (u : Bool) : ∀ m, (xs better least u m).length = m + 1
  | 0 => rfl
  | m + 1 => by rw [xs, List.length_append, xs_length better least u m]; rfl
/-- The first n are small. -/
def Small (out : List Int) (n : Int) : Prop := ∀ j, 0 ≤ j → j < n → 0 ≤ rd out j ∧ (rd out j ≤ j - 1 ∨ rd out j = 0)
theorem pval_in {out : List Int} {n a : Int} (h : Small out n) (ha : 1 ≤ a) (h2 : 2 * a ≤ n) : 0 ≤ pval out n a ∧ pval out n a ≤ n - 1 := by
  have h3 := h a (by omega) (by omega)
  have h4 := h (n - a) (by omega) (by omega)
  unfold pval
  omega
theorem bestOf_in {better : Int → Int → Bool} {least : Int} {u : Bool} {out : List Int} {n : Int} (hn : 1 ≤ n) (h : Small out n) : 0 ≤ bestOf better least u out n ∧ bestOf better least u out n ≤ n - 1 := by
  unfold bestOf
  cases hp : pick better (pval out n) none (mvs least u n 60 1) with
  | none => simp; omega
  | some b => exact pick_in _ _ (fun a ha => pval_in h (mvs_mem _ _ _ ha).1 (mvs_mem _ _ _ ha).2) (fun b hb => by cases hb) b hp
theorem xs_small (better : Int → Int → Bool) (least : Int) (u : Bool) : ∀ m : Nat, Small (xs better least u m) (m + 1)
  | 0 => fun j h0 h1 => by
    have : j = 0 := by omega
    subst this
    exact ⟨Int.le_refl 0, .inr rfl⟩
  | m + 1 => fun j h0 h1 => by
    have ih := xs_small better least u m
    rw [xs, rd_app h0, xs_length]
    split
    · exact ih j h0 (by omega)
    · have := bestOf_in (better := better) (least := least) (u := u) (show (1 : Int) ≤ (m : Int) + 1 by omega) ih
      rw [if_pos (by omega)]
      refine ⟨this.1, .inl ?_⟩
      have := this.2
      omega

end Go.Proofs.Ytjchngehbngghaa.PStrip
