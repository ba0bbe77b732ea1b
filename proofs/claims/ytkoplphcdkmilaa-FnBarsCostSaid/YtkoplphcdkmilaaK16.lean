/- Texts of this claim joined, in the order in which they build: GSEat. -/
import Derived.Test.YtkoplphcdkmilaaK15
section
namespace Go.Proofs.Ytkoplphcdkmilaa.All
open Go.RowKit Go.Proofs.YtkoplphcdkmilaaW.PrintWords Go.Proofs.YtkoplphcdkmilaaW.PrintLast Go.Proofs.YtkoplphcdkmilaaW.PrintMore Go.Shelf Go.Maps Go.Joins Go.Proofs.Ytkoplphcdkmilaa.PEv Go.Proofs.Ytkoplphcdkmilaa.PCount Go.Proofs.Ytkoplphcdkmilaa.GBar Go.Proofs.Ytkoplphcdkmilaa.PImpl Go.Proofs.Ytkoplphcdkmilaa.GTab Go.Proofs.Ytkoplphcdkmilaa.PEat Go.Proofs.Ytkoplphcdkmilaa.PEatEv Go.Proofs.Ytkoplphcdkmilaa.GSteps
attribute [local go_sem] max2_int min2_int
set_option linter.unusedVariables false
set_option linter.unusedSimpArgs false

theorem info45b : (Try.prog.info? 45).map (fun i => (i.zero, i.size, i.bytes)) = some (some (.slice none 0 0), 1, 24) := by kernel_rfl
theorem cuts_down {w h t : Nat} (h1 : 1 ≤ t) (h2 : t < w) : (cutsN w h)[t - 1]? = some (true, t) := by
  unfold cutsN
  rw [List.getElem?_append_left (by simp; omega), List.getElem?_map, List.getElem?_range (by omega)]
  simp
  omega
theorem cuts_across {w h t : Nat} (h1 : 1 ≤ t) (h2 : t < h) : (cutsN w h)[w - 1 + (t - 1)]? = some (false, t) := by
  unfold cutsN
  rw [List.getElem?_append_right (by simp), List.getElem?_map, List.length_map, List.length_range, show w - 1 + (t - 1) - (w - 1) = t - 1 by omega, List.getElem?_range (by omega)]
  simp
  omega
def QR (i T B : Nat) (W : World) (g j : Nat) : Prop := (T < g ∧ g < B) ∧ Row 3 (i * j + 1) (fun _ => True) (fun k => .int .i64 (E i j k)) W g
def QE (b T B : Nat) (W : World) (R i : Nat) : Prop := (T < R ∧ R < B) ∧ Tab (QR i T B W) 41 (b + 1) (fun j => i * j + 1) (b + 1) W R
theorem QR.kept {i T T' B B' : Nat} {W W' : World} {row : Option Nat} {g j : Nat} (h : QR i T B W g j) (hT : T' ≤ T) (hB : B ≤ B') (hg : W.grownBy W' row) (hr : ∀ r, row = some r → B ≤ r ∨ r ≤ T) : QR i T' B' W' g j :=
  ⟨⟨by have := h.1.1; omega, Nat.lt_of_lt_of_le h.1.2 hB⟩, h.2.kept hg (fun e => by have := hr g e.symm; have := h.1; omega)⟩
theorem TabR.kept {i b T T' B B' m R : Nat} {W W' : World} {row : Option Nat} (h : Tab (QR i T B W) 41 (b + 1) (fun j => i * j + 1) m W R) (hT : T' ≤ T) (hB : B ≤ B') (hg : W.grownBy W' row) (hR : some R ≠ row) (hr : ∀ r, row = some r → B ≤ r ∨ r ≤ T) : Tab (QR i T' B' W') 41 (b + 1) (fun j => i * j + 1) m W' R :=
  Tab.kept h hg hR (fun g j hq => hq.kept hT hB hg hr)
theorem QE.kept {b T B B' : Nat} {W W' : World} {row : Option Nat} {R i : Nat} (h : QE b T B W R i) (hB : B ≤ B') (hg : W.grownBy W' row) (hr : ∀ r, row = some r → B ≤ r ∨ r ≤ T) : QE b T B' W' R i :=
  ⟨⟨h.1.1, Nat.lt_of_lt_of_le h.1.2 hB⟩, TabR.kept h.2 (Nat.le_refl _) hB hg (fun e => by have := hr R e.symm; have := h.1; omega) hr⟩
theorem TabE.kept {a b T B B' m : Nat} {W W' : World} {row : Option Nat} (h : Tab (QE b T B W) 45 (a + 1) (fun _ => b + 1) m W T) (hT : T < B) (hB : B ≤ B') (hg : W.grownBy W' row) (hr : ∀ r, row = some r → B ≤ r) : Tab (QE b T B' W') 45 (a + 1) (fun _ => b + 1) m W' T :=
  Tab.kept h hg (fun e => by have := hr T e.symm; omega) (fun g i hq => hq.kept hB hg (fun r hr' => .inl (hr r hr')))
def vC (i j s : Nat) (acc : Int) (k : Nat) : Value := if k = s then .int .i64 acc else .int .i64 (E i j k)
def pC (i j s k : Nat) : Prop := k < s ∨ k = s ∨ k = i * j
theorem row_step {i j s n : Nat} {acc acc' : Int} {W : World} {g : Nat} (h : Row 3 n (pC i j s) (vC i j s acc) W g) : Row 3 n (pC i j s) (vC i j s acc') (W.setCell ⟨g, s, none⟩ (.int .i64 acc')) g :=
  h.put s _ (fun k _ hk => by
    by_cases he : k = s
    · exact .inl ⟨he, by rw [he]; unfold vC; rw [if_pos rfl]⟩
    · exact .inr ⟨he, hk, by unfold vC; rw [if_neg he, if_neg he]⟩)
abbrev S18 (gp T t u gc s G1 G2 j : Nat) (x y acc : Int) (r1 r2 c1 c2 : Value) (wb w' : World) : Prop := w'.cell? ⟨gp, 0, none⟩ = some (.int .i64 x) ∧ w'.cell? ⟨gp, 1, none⟩ = some (.int .i64 y) ∧ w'.cell? ⟨gc, s, none⟩ = some (.int .i64 acc) ∧ w'.cell? ⟨T, t, none⟩ = some r1 ∧ w'.cell? ⟨T, u, none⟩ = some r2 ∧ w'.cell? ⟨G1, j, none⟩ = some c1 ∧ w'.cell? ⟨G2, j, none⟩ = some c2 ∧ wb.grownBy w' none
theorem s18_below {gp T t u gc s G1 G2 j : Nat} {x y acc : Int} {r1 r2 c1 c2 : Value} {wb w' w'' : World} (h : S18 gp T t u gc s G1 G2 j x y acc r1 r2 c1 c2 wb w') (hb : w'.grownBy w'' none) : S18 gp T t u gc s G1 G2 j x y acc r1 r2 c1 c2 wb w'' :=
  ⟨cell_grown h.1 hb (by simp), cell_grown h.2.1 hb (by simp), cell_grown h.2.2.1 hb (by simp), cell_grown h.2.2.2.1 hb (by simp), cell_grown h.2.2.2.2.1 hb (by simp), cell_grown h.2.2.2.2.2.1 hb (by simp), cell_grown h.2.2.2.2.2.2.1 hb (by simp), World.grownBy.trans h.2.2.2.2.2.2.2 hb⟩
abbrev S22 (gp R t u gc s : Nat) (x y acc : Int) (c1 c2 : Value) (wb w' : World) : Prop := w'.cell? ⟨gp, 0, none⟩ = some (.int .i64 x) ∧ w'.cell? ⟨gp, 1, none⟩ = some (.int .i64 y) ∧ w'.cell? ⟨gc, s, none⟩ = some (.int .i64 acc) ∧ w'.cell? ⟨R, t, none⟩ = some c1 ∧ w'.cell? ⟨R, u, none⟩ = some c2 ∧ wb.grownBy w' none
theorem s22_below {gp R t u gc s : Nat} {x y acc : Int} {c1 c2 : Value} {wb w' w'' : World} (h : S22 gp R t u gc s x y acc c1 c2 wb w') (hb : w'.grownBy w'' none) : S22 gp R t u gc s x y acc c1 c2 wb w'' :=
  ⟨cell_grown h.1 hb (by simp), cell_grown h.2.1 hb (by simp), cell_grown h.2.2.1 hb (by simp), cell_grown h.2.2.2.1 hb (by simp), cell_grown h.2.2.2.2.1 hb (by simp), World.grownBy.trans h.2.2.2.2.2 hb⟩
theorem sum_rows {w1 h1 w2 h2 k C1 C2 : Nat} (hw1 : 1 ≤ w1 ∧ w1 ≤ 12) (hh1 : 1 ≤ h1 ∧ h1 ≤ 12) (hw2 : 1 ≤ w2 ∧ w2 ≤ 12) (hh2 : 1 ≤ h2 ∧ h2 ≤ 12) (hk : k ≤ w1 * h1 + w2 * h2) (W : World) (r1 : Row 3 (w1 * h1 + 1) (fun _ => True) (fun k => .int .i64 (E w1 h1 k)) W C1) (r2 : Row 3 (w2 * h2 + 1) (fun _ => True) (fun k => .int .i64 (E w2 h2 k)) W C2) :
    Calls Try.prog 42 #[.slice (some ⟨C1, 0, none⟩) (w1 * h1 + 1) (w1 * h1 + 1), .slice (some ⟨C2, 0, none⟩) (w2 * h2 + 1) (w2 * h2 + 1), .int .i64 k] W fun e w' => e = .returned (.int .i64 (lmin (sums (E w1 h1) (E w2 h2) (w1 * h1) (w2 * h2) k))) ∧ Drawn0 W w' := by
  have l1 : w1 * h1 ≤ 12 * 12 := Nat.mul_le_mul hw1.2 hh1.2
  have l2 : w2 * h2 ≤ 12 * 12 := Nat.mul_le_mul hw2.2 hh2.2
  obtain ⟨kk, hkk⟩ := brSum_ev (E w1 h1) (E w2 h2) (w1 * h1) (w2 * h2) k (by omega) (by omega) hk (fun i => by have := E_bound i hw1 hh1; omega) (fun i => by have := E_bound i hw2 hh2; omega)
  have c1 : Kd.C (Kd.int .i64) W (some ⟨C1, 0, none⟩) (w1 * h1 + 1) (tabl (E w1 h1) (w1 * h1 + 1)) := Row.C r1 (by omega)
  have c2 : Kd.C (Kd.int .i64) W (some ⟨C2, 0, none⟩) (w2 * h2 + 1) (tabl (E w2 h2) (w2 * h2 + 1)) := Row.C r2 (by omega)
  have h := spec_brSum.calls kk (some ⟨C1, 0, none⟩) (w1 * h1 + 1) (tabl (E w1 h1) (w1 * h1 + 1)) (some ⟨C2, 0, none⟩) (w2 * h2 + 1) (tabl (E w2 h2) (w2 * h2 + 1)) (k : Int) _ W (by rw [tabl_length]; exact c1) (by rw [tabl_length]; exact Nat.le_refl _) (by rw [tabl_length]; exact c2) (by rw [tabl_length]; exact Nat.le_refl _) hkk
  rw [tabl_length, tabl_length] at h
  exact h

set_option maxHeartbeats 8000000 in
set_option maxRecDepth 100000 in
theorem brEat_any (a b : Nat) (hok : okB (a : Int) (b : Int)) (W : World) :
    Calls Try.prog 35 #[.agg #[.int .i64 a, .int .i64 b]] W fun e w' => ∃ T, e = .returned (.slice (some ⟨T, 0, none⟩) (a + 1) (a + 1)) ∧ Aside0 (Tab (QE b T w'.heap.size w') 45 (a + 1) (fun _ => b + 1) (a + 1) w' T) ∧ Below W.heap.size W w' := by
  have hu25 := Try.underlying25
  have ha : 1 ≤ (a : Int) ∧ (a : Int) ≤ 12 := hok.1
  have hb : 1 ≤ (b : Int) ∧ (b : Int) ≤ 12 := hok.2
  have hmk1 := fun W => make_run Try.underlying58 info45b rfl (a + 1) ((a : Int) + 1) (by omega) (by omega) (by omega) W
  have hmk2 := fun W => make_run Try.underlying45 info41 rfl (b + 1) ((b : Int) + 1) (by omega) (by omega) (by omega) W
  have HOK := Aside0.mk hok
  clear hok
  go_enter Try.func35, Try.ntmps35
  go_wp2
  have HT0 : Aside0 (Tab (QE b (W.heap.size + 1) ((W.alloc (.cells #[.int .i64 a, .int .i64 b] 25)).alloc (.cells (madeCells #[.slice none 0 0] (a + 1)) 45)).heap.size ((W.alloc (.cells #[.int .i64 a, .int .i64 b] 25)).alloc (.cells (madeCells #[.slice none 0 0] (a + 1)) 45))) 45 (a + 1) (fun _ => b + 1) 1 ((W.alloc (.cells #[.int .i64 a, .int .i64 b] 25)).alloc (.cells (madeCells #[.slice none 0 0] (a + 1)) 45)) (W.heap.size + 1)) := ⟨by
    have h := Tab.made (W.alloc (.cells #[.int .i64 a, .int .i64 b] 25)) (a + 1) 45 (QE b (W.heap.size + 1) ((W.alloc (.cells #[.int .i64 a, .int .i64 b] 25)).alloc (.cells (madeCells #[.slice none 0 0] (a + 1)) 45)).heap.size ((W.alloc (.cells #[.int .i64 a, .int .i64 b] 25)).alloc (.cells (madeCells #[.slice none 0 0] (a + 1)) 45))) (fun _ => b + 1)
    rw [show (W.alloc (.cells #[.int .i64 a, .int .i64 b] 25)).heap.size = W.heap.size + 1 by simp] at h
    exact h⟩
  have HBX0 : Aside0 (((W.alloc (.cells #[.int .i64 a, .int .i64 b] 25)).alloc (.cells (madeCells #[.slice none 0 0] (a + 1)) 45)).heap[W.heap.size]? = some (.cells #[.int .i64 a, .int .i64 b] 25 (0, 0))) := ⟨blk_alloc (blk_new W _) _⟩
  have HBL0 : Aside0 (Below W.heap.size W ((W.alloc (.cells #[.int .i64 a, .int .i64 b] 25)).alloc (.cells (madeCells #[.slice none 0 0] (a + 1)) 45))) := ⟨((Below.refl _ _).alloc (Nat.le_refl _) _).alloc (by simp) _⟩
  obtain ⟨nb, hnb⟩ : ∃ nb, W.heap.size = nb := ⟨_, rfl⟩
  rw [hnb] at HT0 HBX0 HBL0 ⊢
  generalize (W.alloc (.cells #[.int .i64 a, .int .i64 b] 25)).alloc (.cells (madeCells #[.slice none 0 0] (a + 1)) 45) = W2 at HT0 HBX0 HBL0 ⊢
  have HNB := Aside0.mk hnb
  clear hnb
  go_loopg [4] (a + 1) (fun gg s4 wr => ∃ i : Nat, 1 ≤ i ∧ i ≤ a + 1 ∧ a + 1 - i ≤ gg ∧ s4 = .int .i64 i ∧ Aside0 (Tab (QE b (nb + 1) wr.heap.size wr) 45 (a + 1) (fun _ => b + 1) i wr (nb + 1)) ∧ Aside0 (wr.heap[nb]? = some (.cells #[.int .i64 a, .int .i64 b] 25 (0, 0))) ∧ Aside0 (Below nb W wr))
  case atStart => exact ⟨1, by omega, by omega, by omega, rfl, HT0, HBX0, HBL0⟩
  case round =>
    clear HT0 HBX0 HBL0
    obtain ⟨i, hi1, hi2, hgg, rfl, HT, HBX, HBL⟩ := hrel
    have cb0 : wr.cell? ⟨nb, 0, none⟩ = some (.int .i64 a) := (blk_cell HBX.out 0).trans rfl
    have cb1 : wr.cell? ⟨nb, 1, none⟩ = some (.int .i64 b) := (blk_cell HBX.out 1).trans rfl
    by_cases hlt : i ≤ a
    · have hltz : (i : Int) ≤ (a : Int) := by omega
      go_wp2
      have HT2 : Aside0 (Tab (QE b (nb + 1) wr.heap.size (wr.alloc (.cells (madeCells #[.slice none 0 0] (b + 1)) 41))) 45 (a + 1) (fun _ => b + 1) i (wr.alloc (.cells (madeCells #[.slice none 0 0] (b + 1)) 41)) (nb + 1)) := ⟨TabE.kept HT.out HT.out.lt (Nat.le_refl _) (World.grownBy_alloc _ _ none) (by simp)⟩
      have HR2 : Aside0 (Tab (QR i wr.heap.size (wr.alloc (.cells (madeCells #[.slice none 0 0] (b + 1)) 41)).heap.size (wr.alloc (.cells (madeCells #[.slice none 0 0] (b + 1)) 41))) 41 (b + 1) (fun j => i * j + 1) 1 (wr.alloc (.cells (madeCells #[.slice none 0 0] (b + 1)) 41)) wr.heap.size) := ⟨Tab.made wr (b + 1) 41 _ _⟩
      have HBX2 : Aside0 ((wr.alloc (.cells (madeCells #[.slice none 0 0] (b + 1)) 41)).heap[nb]? = some (.cells #[.int .i64 a, .int .i64 b] 25 (0, 0))) := ⟨blk_alloc HBX.out _⟩
      have HBL2 : Aside0 (Below nb W (wr.alloc (.cells (madeCells #[.slice none 0 0] (b + 1)) 41))) := ⟨HBL.out.alloc (by have := blk_lt HBX.out; omega) _⟩
      have HG : Aside0 (nb + 1 < wr.heap.size) := ⟨HT.out.lt⟩
      obtain ⟨R, hR⟩ : ∃ R, wr.heap.size = R := ⟨_, rfl⟩
      rw [hR] at HT2 HR2 HG ⊢
      generalize wr.alloc (.cells (madeCells #[.slice none 0 0] (b + 1)) 41) = w2 at HT2 HR2 HBX2 HBL2 ⊢
      clear cb0 cb1 hR HT HBX HBL
      go_loopg [6] (b + 1) (fun gg s6 wx => ∃ j : Nat, 1 ≤ j ∧ j ≤ b + 1 ∧ b + 1 - j ≤ gg ∧ s6 = .int .i64 j ∧ Aside0 (Tab (QE b (nb + 1) R wx) 45 (a + 1) (fun _ => b + 1) i wx (nb + 1)) ∧ Aside0 (Tab (QR i R wx.heap.size wx) 41 (b + 1) (fun j => i * j + 1) j wx R) ∧ Aside0 (wx.heap[nb]? = some (.cells #[.int .i64 a, .int .i64 b] 25 (0, 0))) ∧ Aside0 (Below nb W wx))
      case atStart => exact ⟨1, by omega, by omega, by omega, rfl, HT2, HR2, HBX2, HBL2⟩
      case round =>
        clear HT2 HR2 HBX2 HBL2
        obtain ⟨j, hj1, hj2, hgg2, rfl, HT, HR, HBX, HBL⟩ := hrel
        have cb1 : wr.cell? ⟨nb, 1, none⟩ = some (.int .i64 b) := (blk_cell HBX.out 1).trans rfl
        by_cases hltj : j ≤ b
        · have hltjz : (j : Int) ≤ (b : Int) := by omega
          have hp2 : i * j ≤ 144 := by
            have : i * j ≤ 12 * 12 := Nat.mul_le_mul (by omega) (by omega)
            omega
          have hp3 : 1 ≤ i * j := Nat.mul_pos hi1 hj1
          obtain ⟨p2, hpe⟩ : ∃ p2, i * j = p2 := ⟨_, rfl⟩
          rw [hpe] at hp2 hp3
          have HPE := Aside0.mk hpe
          have hmul : (i : Int) * (j : Int) = (p2 : Int) := by rw [← Int.natCast_mul, hpe]
          have hmk3 := fun W => make_run Try.underlying41 info3 rfl (p2 + 1) ((p2 : Int) + 1) (by omega) (by omega) (by omega) W
          clear hpe
          go_wp2
          have HW0 : Aside0 (wr.grownBy ((wr.alloc (.cells #[.int .i64 i, .int .i64 j] 25)).alloc (.cells (madeCells #[.int .i64 0] (p2 + 1)) 3)) none) := ⟨World.grownBy.trans (World.grownBy_alloc _ _ _) (World.grownBy_alloc _ _ _)⟩
          have HP0 : Aside0 (((wr.alloc (.cells #[.int .i64 i, .int .i64 j] 25)).alloc (.cells (madeCells #[.int .i64 0] (p2 + 1)) 3)).heap[wr.heap.size]? = some (.cells #[.int .i64 i, .int .i64 j] 25 (0, 0))) := ⟨blk_alloc (blk_new wr _) _⟩
          have HC0 : Aside0 (Row 3 (p2 + 1) (fun k => k < 1 ∨ k = p2) (fun k => .int .i64 (E i j k)) ((wr.alloc (.cells #[.int .i64 i, .int .i64 j] 25)).alloc (.cells (madeCells #[.int .i64 0] (p2 + 1)) 3)) (wr.heap.size + 1)) := ⟨by
            have h := Row.made (wr.alloc (.cells #[.int .i64 i, .int .i64 j] 25)) (.int .i64 0) (p2 + 1) 3
            rw [show (wr.alloc (.cells #[.int .i64 i, .int .i64 j] 25)).heap.size = wr.heap.size + 1 by simp] at h
            exact h.imp (fun _ _ _ => trivial) (fun k _ hk => by rw [E_end (by rw [HPE.out]; omega)])⟩
          have HRL := Aside0.mk HR.out.lt
          obtain ⟨gp, hgp⟩ : ∃ gp, wr.heap.size = gp := ⟨_, rfl⟩
          rw [hgp] at HP0 HC0 HRL ⊢
          have HRB : Aside0 (Tab (QR i R gp wr) 41 (b + 1) (fun j => i * j + 1) j wr R) := ⟨by have h := HR.out; rw [hgp] at h; exact h⟩
          generalize (wr.alloc (.cells #[.int .i64 i, .int .i64 j] 25)).alloc (.cells (madeCells #[.int .i64 0] (p2 + 1)) 3) = w0 at HW0 HP0 HC0 ⊢
          have HT3 := Aside0.mk (TabE.kept HT.out HG.out (Nat.le_refl _) HW0.out (by simp))
          have HR3 := Aside0.mk (TabR.kept HRB.out (Nat.le_refl _) (Nat.le_refl _) HW0.out (by simp) (by simp))
          have HBX3 := Aside0.mk (blk_grown' HBX.out HW0.out (by simp))
          have HBL3 := Aside0.mk (below_new HBL.out HW0.out (by simp) (by rw [HNB.out]; exact Nat.le_refl _))
          have HWR : Aside0 (gp + 1 < w0.heap.size) := ⟨HC0.out.lt⟩
          clear cb1 HT HR HBX HBL HRB HW0 hgp hmk3
          go_loopg [9] p2 (fun gg s9 wy => ∃ s : Nat, 1 ≤ s ∧ s ≤ p2 ∧ p2 - s ≤ gg ∧ s9 = .int .i64 s ∧ Aside0 (w0.grownBy wy (some (gp + 1))) ∧ Aside0 (Row 3 (p2 + 1) (fun k => k < s ∨ k = p2) (fun k => .int .i64 (E i j k)) wy (gp + 1)))
          case atStart => exact ⟨1, by omega, by omega, by omega, rfl, ⟨World.grownBy.refl _ _⟩, HC0⟩
          case round =>
            clear HC0
            obtain ⟨s, hs1, hs2, hgg3, rfl, HG3, HC⟩ := hrel
            by_cases hlts : s < p2
            · have hltsz : (s : Int) < (p2 : Int) := by omega
              have hfr := HC.out.frozen s
              obtain ⟨xo, hxo⟩ := HC.out.any s (by omega)
              have b1 : (s : Int) < (p2 : Int) + 1 := by omega
              have b2 : s < p2 + 1 := by omega
              go_wp2
              have HG4 := Aside0.mk (World.grownBy.trans HG3.out (set1_grown wr (gp + 1) s (.int .i64 (-1))))
              have HC4 : Aside0 (Row 3 (p2 + 1) (pC i j s) (vC i j s (-1)) (wr.setCell ⟨gp + 1, s, none⟩ (.int .i64 (-1))) (gp + 1)) := ⟨HC.out.put s _ (fun k _ hk => by
                by_cases he : k = s
                · exact .inl ⟨he, by rw [he]; unfold vC; rw [if_pos rfl]⟩
                · refine .inr ⟨he, ?_, by unfold vC; rw [if_neg he]⟩
                  rcases hk with h | h | h
                  · exact .inl h
                  · exact absurd h he
                  · exact .inr (by rw [h, HPE.out]))⟩
              generalize wr.setCell ⟨gp + 1, s, none⟩ (.int .i64 (-1)) = w4 at HG4 HC4 ⊢
              clear hfr hxo HG3 HC b1 b2
              go_loopg [10] i (fun gg s10 wz => ∃ t : Nat, 1 ≤ t ∧ t ≤ i ∧ i - t ≤ gg ∧ s10 = .int .i64 t ∧ Aside0 (w0.grownBy wz (some (gp + 1))) ∧ Aside0 (Row 3 (p2 + 1) (pC i j s) (vC i j s (accE i j s (t - 1))) wz (gp + 1)))
              case atStart => exact ⟨1, by omega, by omega, by omega, rfl, HG4, HC4⟩
              case round =>
                clear HG4 HC4
                obtain ⟨t, ht1, ht2, hgg4, rfl, HGx, HC⟩ := hrel
                by_cases hltt : t < i
                · have hlttz : (t : Int) < (i : Int) := by omega
                  obtain ⟨u, hu⟩ : ∃ u, i - t = u := ⟨_, rfl⟩
                  obtain ⟨G1, c1, hq1⟩ := HT3.out.at t ht1 hltt (by omega)
                  obtain ⟨G2, c2, hq2⟩ := HT3.out.at u (by omega) (by omega) (by omega)
                  obtain ⟨C1, d1, hr1⟩ := hq1.2.at j hj1 (by omega) (by omega)
                  obtain ⟨C2, d2, hr2⟩ := hq2.2.at j hj1 (by omega) (by omega)
                  have hn1 : nb + 1 ≠ gp + 1 := by have := HG.out; have := HRL.out; omega
                  have hn2 : G1 ≠ gp + 1 := by have := hq1.1; have := HRL.out; omega
                  have hn3 : G2 ≠ gp + 1 := by have := hq2.1; have := HRL.out; omega
                  have hn4 : C1 ≠ gp + 1 := by have := hr1.1; have := HRL.out; omega
                  have hn5 : C2 ≠ gp + 1 := by have := hr2.1; have := HRL.out; omega
                  have hcut := cuts_down (h := j) ht1 hltt
                  have hk1 : s ≤ t * j + u * j := by rw [← Nat.add_mul, show t + u = i by omega, HPE.out]; omega
                  have hsum := fun (w' : World) (hg : wr.grownBy w' none) => sum_rows (w1 := t) (h1 := j) (w2 := u) (h2 := j) (k := s) ⟨by omega, by omega⟩ ⟨hj1, by omega⟩ ⟨by omega, by omega⟩ ⟨hj1, by omega⟩ hk1 w' ((hr1.2.kept HGx.out (by simp; omega)).new hg) ((hr2.2.kept HGx.out (by simp; omega)).new hg)
                  have hSE : SE i j (true, t) s = lmin (sums (E t j) (E u j) (t * j) (u * j) s) := by rw [← hu]; rfl
                  have hmem : ((true, t) : Bool × Nat) ∈ cutsN i j := List.mem_of_getElem? hcut
                  have hse := SE_bound (k := s) hmem ⟨hi1, by omega⟩ ⟨hj1, by omega⟩ (by rw [HPE.out]; omega)
                  have hpi := price_in (w := i) (h := j) true ⟨hi1, by omega⟩ ⟨hj1, by omega⟩
                  have hstep := accE_succ (k := s) hcut
                  have hlen : t - 1 < (cutsN i j).length := (List.getElem?_eq_some_iff.1 hcut).1
                  have hacb := accE_in (w := i) (h := j) (k := s) (n := t - 1) ⟨hi1, by omega⟩ ⟨hj1, by omega⟩ (by rw [HPE.out]; omega) (by omega)
                  rw [hSE] at hstep hse
                  rw [show t - 1 + 1 = t + 1 - 1 by omega] at hstep
                  have hpr := fun w => spec_brPrice.calls (i : Int) (j : Int) true _ w (price_eq true ⟨hi1, by omega⟩ ⟨hj1, by omega⟩)
                  obtain ⟨sv, hsv⟩ : ∃ sv, lmin (sums (E t j) (E u j) (t * j) (u * j) s) = sv := ⟨_, rfl⟩
                  obtain ⟨pv, hpv⟩ : ∃ pv, price i j true = pv := ⟨_, rfl⟩
                  obtain ⟨ac, hac⟩ : ∃ ac, accE i j s (t - 1) = ac := ⟨_, rfl⟩
                  obtain ⟨an, han⟩ : ∃ an, accE i j s (t + 1 - 1) = an := ⟨_, rfl⟩
                  obtain ⟨x, hx⟩ : ∃ x, sv + pv = x := ⟨_, rfl⟩
                  obtain ⟨p1, hp1⟩ : ∃ p1, t * j = p1 := ⟨_, rfl⟩
                  obtain ⟨q1, hq1e⟩ : ∃ q1, u * j = q1 := ⟨_, rfl⟩
                  rw [hsv] at hsum hse hstep
                  rw [hpv] at hstep hpi hpr
                  rw [hac, hx, han] at hstep
                  rw [hac] at hacb HC
                  rw [hp1, hq1e] at hsum
                  rw [hp1] at d1
                  rw [hq1e] at d2
                  have hle := fun w => spec_brLess.calls ac x an w (by rw [less_eq, hstep])
                  have hws : IntKind.i64.wrap (sv + pv) = x := by rw [IntKind.wrap_i64]; omega
                  have hw0 : IntKind.i64.wrap ((i : Int) - (t : Int)) = (u : Int) := by rw [IntKind.wrap_i64]; omega
                  have hwt : wrap64 ((i : Int) - (t : Int)) = (u : Int) := by unfold wrap64; omega
                  have hwq : wrap64 (sv + pv) = x := by unfold wrap64; omega
                  have bit : (t : Int) < (a : Int) + 1 := by omega
                  have bnt : t < a + 1 := by omega
                  have biu : (u : Int) < (a : Int) + 1 := by omega
                  have bnu : u < a + 1 := by omega
                  have bij : (j : Int) < (b : Int) + 1 := by omega
                  have bnj : j < b + 1 := by omega
                  have bis : (s : Int) < (p2 : Int) + 1 := by omega
                  have bns : s < p2 + 1 := by omega
                  have hpc0 := cell_grown ((blk_cell HP0.out 0).trans rfl : w0.cell? ⟨gp, 0, none⟩ = some (.int .i64 (i : Int))) HGx.out (by simp)
                  have hpc1 := cell_grown ((blk_cell HP0.out 1).trans rfl : w0.cell? ⟨gp, 1, none⟩ = some (.int .i64 (j : Int))) HGx.out (by simp)
                  have hcc : wr.cell? ⟨gp + 1, s, none⟩ = some (.int .i64 ac) := by have h := HC.out.cell s (by omega) (.inr (.inl rfl)); unfold vC at h; rw [if_pos rfl] at h; exact h
                  have s0 : S18 gp (nb + 1) t u (gp + 1) s G1 G2 j (i : Int) (j : Int) ac (.slice (some ⟨G1, 0, none⟩) (b + 1) (b + 1)) (.slice (some ⟨G2, 0, none⟩) (b + 1) (b + 1)) (.slice (some ⟨C1, 0, none⟩) (p1 + 1) (p1 + 1)) (.slice (some ⟨C2, 0, none⟩) (q1 + 1) (q1 + 1)) wr wr.drew := s18_below ⟨hpc0, hpc1, hcc, cell_grown c1 HGx.out (by simp; omega), cell_grown c2 HGx.out (by simp; omega), cell_grown d1 HGx.out (by simp; omega), cell_grown d2 HGx.out (by simp; omega), World.grownBy.refl _ _⟩ (grown_drew wr)
                  clear hSE hmem hsv hpv hac hx hp1 hq1e hstep hse hpi hacb hcut hk1 c1 c2 d1 d2 hr1 hr2 hq1 hq2 hn1 hn2 hn3 hn4 hn5 hpc0 hpc1 hcc hlen
                  have HU := Aside0.mk hu
                  have HAN := Aside0.mk han
                  clear hu han
                  go_wp2
                  refine start_ (n := 30) (S := (fun w' => w'.cell? ⟨gp, 0, none⟩ = some (.int .i64 (i : Int)) ∧ w'.cell? ⟨gp, 1, none⟩ = some (.int .i64 (j : Int)) ∧ w'.cell? ⟨gp + 1, s, none⟩ = some (.int .i64 ac) ∧ w'.cell? ⟨nb + 1, t, none⟩ = some (.slice (some ⟨G1, 0, none⟩) (b + 1) (b + 1)) ∧ w'.cell? ⟨nb + 1, u, none⟩ = some (.slice (some ⟨G2, 0, none⟩) (b + 1) (b + 1)) ∧ w'.cell? ⟨G1, j, none⟩ = some (.slice (some ⟨C1, 0, none⟩) (p1 + 1) (p1 + 1)) ∧ w'.cell? ⟨G2, j, none⟩ = some (.slice (some ⟨C2, 0, none⟩) (q1 + 1) (q1 + 1)) ∧ wr.grownBy w' none)) (ds := [29]) _ (by kernel_rfl) rfl rfl (s0) (fun hHeld => ?_)
                  refine pureS_ 0 (N := some 55) (v := ?_) (a' := ?_) rfl rfl (by kernel_rfl) (fun _ _ _ h => h) (Or.inl ⟨by rfl, ?_⟩) ?_ ?_
                  rotate_left
                  · intro w'; go_simp; with_reducible rfl
                  rotate_left
                  · simp only [Act.put, List.setIfInBounds_toArray, List.set_cons_zero, List.set_cons_succ, i64_w, i32_w]; rfl
                  refine pureS_ 1 (N := some 56) (v := ?_) (a' := ?_) rfl rfl (by kernel_rfl) (fun _ _ _ h => h) (Or.inl ⟨by rfl, ?_⟩) ?_ ?_
                  rotate_left
                  · intro w'; go_simp; with_reducible rfl
                  rotate_left
                  · simp only [Act.put, List.setIfInBounds_toArray, List.set_cons_zero, List.set_cons_succ, i64_w, i32_w]; rfl
                  refine pureS_ 2 (N := some 57) (v := ?_) (a' := ?_) rfl rfl (by kernel_rfl) (fun _ _ _ h => h) (Or.inl ⟨by rfl, ?_⟩) ?_ ?_
                  rotate_left
                  · intro w'; go_simp; with_reducible rfl
                  rotate_left
                  · simp only [Act.put, List.setIfInBounds_toArray, List.set_cons_zero, List.set_cons_succ, i64_w, i32_w]; rfl
                  refine pureS_ 3 (N := some 58) (v := ?_) (a' := ?_) rfl rfl (by kernel_rfl) (fun _ _ _ h => h) (Or.inl ⟨by rfl, ?_⟩) ?_ ?_
                  rotate_left
                  · intro w'; go_simp; with_reducible rfl
                  rotate_left
                  · simp only [Act.put, List.setIfInBounds_toArray, List.set_cons_zero, List.set_cons_succ, i64_w, i32_w]; rfl
                  refine pureS_ 4 (N := some 59) (v := ?_) (a' := ?_) rfl rfl (by kernel_rfl) (fun _ _ _ h => h) (Or.inl ⟨by rfl, ?_⟩) ?_ ?_
                  rotate_left
                  · intro w'; go_simp; with_reducible rfl
                  rotate_left
                  · simp only [Act.put, List.setIfInBounds_toArray, List.set_cons_zero, List.set_cons_succ, i64_w, i32_w]; rfl
                  refine pureS_ 6 (N := some 61) (v := ?_) (a' := ?_) rfl rfl (by kernel_rfl) (fun _ _ _ h => h) (Or.inl ⟨by rfl, ?_⟩) ?_ ?_
                  rotate_left
                  · intro w'; go_simp; with_reducible rfl
                  rotate_left
                  · simp only [Act.put, List.setIfInBounds_toArray, List.set_cons_zero, List.set_cons_succ, i64_w, i32_w]; rfl
                  refine pureS_ 7 (N := some 62) (v := ?_) (a' := ?_) rfl rfl (by kernel_rfl) (fun _ _ _ h => h) (Or.inl ⟨by rfl, ?_⟩) ?_ ?_
                  rotate_left
                  · intro w'; go_simp; with_reducible rfl
                  rotate_left
                  · simp only [Act.put, List.setIfInBounds_toArray, List.set_cons_zero, List.set_cons_succ, i64_w, i32_w]; rfl
                  refine pureS_ 8 (N := some 63) (v := ?_) (a' := ?_) rfl rfl (by kernel_rfl) (fun _ _ _ h => h) (Or.inl ⟨by rfl, ?_⟩) ?_ ?_
                  rotate_left
                  · intro w'; go_simp; with_reducible rfl
                  rotate_left
                  · simp only [Act.put, List.setIfInBounds_toArray, List.set_cons_zero, List.set_cons_succ, i64_w, i32_w]; rfl
                  refine pureS_ 10 (N := some 65) (v := ?_) (a' := ?_) rfl rfl (by kernel_rfl) (fun _ _ _ h => h) (Or.inl ⟨by rfl, ?_⟩) ?_ ?_
                  rotate_left
                  · intro w'; go_simp; with_reducible rfl
                  rotate_left
                  · simp only [Act.put, List.setIfInBounds_toArray, List.set_cons_zero, List.set_cons_succ, i64_w, i32_w]; rfl
                  refine pureS_ 13 (N := some 68) (v := ?_) (a' := ?_) rfl rfl (by kernel_rfl) (fun _ _ _ h => h) (Or.inl ⟨by rfl, ?_⟩) ?_ ?_
                  rotate_left
                  · intro w'; go_simp; with_reducible rfl
                  rotate_left
                  · simp only [Act.put, List.setIfInBounds_toArray, List.set_cons_zero, List.set_cons_succ, i64_w, i32_w]; rfl
                  refine pureS_ 14 (N := some 69) (v := ?_) (a' := ?_) rfl rfl (by kernel_rfl) (fun _ _ _ h => h) (Or.inl ⟨by rfl, ?_⟩) ?_ ?_
                  rotate_left
                  · intro w'; go_simp; with_reducible rfl
                  rotate_left
                  · simp only [Act.put, List.setIfInBounds_toArray, List.set_cons_zero, List.set_cons_succ, i64_w, i32_w]; rfl
                  refine pureS_ 15 (N := some 70) (v := ?_) (a' := ?_) rfl rfl (by kernel_rfl) (fun _ _ _ h => h) (Or.inl ⟨by rfl, ?_⟩) ?_ ?_
                  rotate_left
                  · intro w'; go_simp; with_reducible rfl
                  rotate_left
                  · simp only [Act.put, List.setIfInBounds_toArray, List.set_cons_zero, List.set_cons_succ, i64_w, i32_w]; rfl
                  refine pureS_ 16 (N := some 71) (v := ?_) (a' := ?_) rfl rfl (by kernel_rfl) (fun _ _ _ h => h) (Or.inl ⟨by rfl, ?_⟩) ?_ ?_
                  rotate_left
                  · intro w'; go_simp; with_reducible rfl
                  rotate_left
                  · simp only [Act.put, List.setIfInBounds_toArray, List.set_cons_zero, List.set_cons_succ, i64_w, i32_w]; rfl
                  refine pureS_ 17 (N := some 72) (v := ?_) (a' := ?_) rfl rfl (by kernel_rfl) (fun _ _ _ h => h) (Or.inl ⟨by rfl, ?_⟩) ?_ ?_
                  rotate_left
                  · intro w'; go_simp; with_reducible rfl
                  rotate_left
                  · simp only [Act.put, List.setIfInBounds_toArray, List.set_cons_zero, List.set_cons_succ, i64_w, i32_w]; rfl
                  refine pureS_ 19 (N := some 74) (v := ?_) (a' := ?_) rfl rfl (by kernel_rfl) (fun _ _ _ h => h) (Or.inl ⟨by rfl, ?_⟩) ?_ ?_
                  rotate_left
                  · intro w'; go_simp; with_reducible rfl
                  rotate_left
                  · simp only [Act.put, List.setIfInBounds_toArray, List.set_cons_zero, List.set_cons_succ, i64_w, i32_w]; rfl
                  refine pureS_ 22 (N := some 77) (v := ?_) (a' := ?_) rfl rfl (by kernel_rfl) (fun _ _ _ h => h) (Or.inl ⟨by rfl, ?_⟩) ?_ ?_
                  rotate_left
                  · intro w'; go_simp; with_reducible rfl
                  rotate_left
                  · simp only [Act.put, List.setIfInBounds_toArray, List.set_cons_zero, List.set_cons_succ, i64_w, i32_w]; rfl
                  refine takeS_ 5 (N := some 60) (v := ?_) (a' := ?_) rfl rfl (by kernel_rfl) (fun _ _ _ h => h) (Or.inl ⟨by rfl, ?_⟩) hHeld ?_ ?_
                  rotate_left
                  · rintro w' ⟨s0, s1, s2, s3, s4, s5, s6, s7⟩; go_simp; with_reducible rfl
                  rotate_left
                  · simp only [Act.put, List.setIfInBounds_toArray, List.set_cons_zero, List.set_cons_succ, i64_w, i32_w]; rfl
                  refine takeS_ 9 (N := some 64) (v := ?_) (a' := ?_) rfl rfl (by kernel_rfl) (fun _ _ _ h => h) (Or.inl ⟨by rfl, ?_⟩) hHeld ?_ ?_
                  rotate_left
                  · rintro w' ⟨s0, s1, s2, s3, s4, s5, s6, s7⟩; go_simp; with_reducible rfl
                  rotate_left
                  · simp only [Act.put, List.setIfInBounds_toArray, List.set_cons_zero, List.set_cons_succ, i64_w, i32_w]; rfl
                  refine pureS_ 11 (N := some 66) (v := ?_) (a' := ?_) rfl rfl (by kernel_rfl) (fun _ _ _ h => h) (Or.inl ⟨by rfl, ?_⟩) ?_ ?_
                  rotate_left
                  · intro w'; go_simp; with_reducible rfl
                  rotate_left
                  · simp only [Act.put, List.setIfInBounds_toArray, List.set_cons_zero, List.set_cons_succ, i64_w, i32_w]; rfl
                  refine takeS_ 12 (N := some 67) (v := ?_) (a' := ?_) rfl rfl (by kernel_rfl) (fun _ _ _ h => h) (Or.inl ⟨by rfl, ?_⟩) hHeld ?_ ?_
                  rotate_left
                  · rintro w' ⟨s0, s1, s2, s3, s4, s5, s6, s7⟩; go_simp; with_reducible rfl
                  rotate_left
                  · simp only [Act.put, List.setIfInBounds_toArray, List.set_cons_zero, List.set_cons_succ, i64_w, i32_w]; rfl
                  refine takeS_ 18 (N := some 73) (v := ?_) (a' := ?_) rfl rfl (by kernel_rfl) (fun _ _ _ h => h) (Or.inl ⟨by rfl, ?_⟩) hHeld ?_ ?_
                  rotate_left
                  · rintro w' ⟨s0, s1, s2, s3, s4, s5, s6, s7⟩; go_simp; with_reducible rfl
                  rotate_left
                  · simp only [Act.put, List.setIfInBounds_toArray, List.set_cons_zero, List.set_cons_succ, i64_w, i32_w]; rfl
                  refine pureS_ 20 (N := some 75) (v := ?_) (a' := ?_) rfl rfl (by kernel_rfl) (fun _ _ _ h => h) (Or.inl ⟨by rfl, ?_⟩) ?_ ?_
                  rotate_left
                  · intro w'; go_simp; with_reducible rfl
                  rotate_left
                  · simp only [Act.put, List.setIfInBounds_toArray, List.set_cons_zero, List.set_cons_succ, i64_w, i32_w]; rfl
                  refine takeS_ 21 (N := some 76) (v := ?_) (a' := ?_) rfl rfl (by kernel_rfl) (fun _ _ _ h => h) (Or.inl ⟨by rfl, ?_⟩) hHeld ?_ ?_
                  rotate_left
                  · rintro w' ⟨s0, s1, s2, s3, s4, s5, s6, s7⟩; go_simp; with_reducible rfl
                  rotate_left
                  · simp only [Act.put, List.setIfInBounds_toArray, List.set_cons_zero, List.set_cons_succ, i64_w, i32_w]; rfl
                  refine takeS_ 24 (N := some 79) (v := ?_) (a' := ?_) rfl rfl (by kernel_rfl) (fun _ _ _ h => h) (Or.inl ⟨by rfl, ?_⟩) hHeld ?_ ?_
                  rotate_left
                  · rintro w' ⟨s0, s1, s2, s3, s4, s5, s6, s7⟩; go_simp; with_reducible rfl
                  rotate_left
                  · simp only [Act.put, List.setIfInBounds_toArray, List.set_cons_zero, List.set_cons_succ, i64_w, i32_w]; rfl
                  refine oneS_ 23 (N := some 78) rfl rfl (by kernel_rfl) (by decide) (fun K hK => ?_)
                  refine goes_ Try.func42 (by kernel_rfl) rfl #[.slice (some ⟨C1, 0, none⟩) (p1 + 1) (p1 + 1), .slice (some ⟨C2, 0, none⟩) (q1 + 1) (q1 + 1), .int .i64 s] (by rfl) rfl rfl (by (try simp only [List.map_toArray, List.map_cons, List.map_nil]); first | done | rfl) ?_
                  refine (hsum _ hHeld.2.2.2.2.2.2.2).mono ?_
                  rintro e w' ⟨rfl, ⟨nd, rfl⟩⟩
                  refine ⟨_, rfl, ?_⟩
                  refine hK.out _ _ (s18_below hHeld (grown_drewN _ _)) (fun hHeld => ?_)
                  clear hK K
                  refine norm_ (a' := ?_) ?_ ?_
                  rotate_left
                  · show Act.put _ (some 78) _ = _; simp only [Act.put, List.setIfInBounds_toArray, List.set_cons_zero, List.set_cons_succ, i64_w, i32_w]; rfl
                  refine oneS_ 25 (N := some 80) rfl rfl (by kernel_rfl) (by decide) (fun K hK => ?_)
                  refine goes_ Try.func43 (by kernel_rfl) rfl #[.agg #[.int .i64 i, .int .i64 j], .bool true] (by rfl) rfl rfl (by (try simp only [List.map_toArray, List.map_cons, List.map_nil]); first | done | rfl) ?_
                  refine (hpr _).mono ?_
                  rintro e w6 ⟨rfl, hb6⟩
                  refine ⟨_, rfl, ?_⟩
                  refine hK.out _ _ (s18_below hHeld (grown_of_below hb6 none)) (fun hHeld => ?_)
                  clear hK K
                  refine norm_ (a' := ?_) ?_ ?_
                  rotate_left
                  · show Act.put _ (some 80) _ = _; simp only [Act.put, List.setIfInBounds_toArray, List.set_cons_zero, List.set_cons_succ, i64_w, i32_w]; rfl
                  refine pureS_ 26 (N := some 81) (v := ?_) (a' := ?_) rfl rfl (by kernel_rfl) (fun _ _ _ h => h) (Or.inl ⟨by rfl, ?_⟩) ?_ ?_
                  rotate_left
                  · intro w'; go_simp; with_reducible rfl
                  rotate_left
                  · simp only [Act.put, List.setIfInBounds_toArray, List.set_cons_zero, List.set_cons_succ, i64_w, i32_w]; rfl
                  refine oneS_ 27 (N := some 82) rfl rfl (by kernel_rfl) (by decide) (fun K hK => ?_)
                  refine goes_ Try.func57 (by kernel_rfl) rfl #[.int .i64 ac, .int .i64 x] (by rfl) rfl rfl (by (try simp only [List.map_toArray, List.map_cons, List.map_nil]); first | done | rfl) ?_
                  refine (hle _).mono ?_
                  rintro e w' ⟨rfl, ⟨nd2, rfl⟩⟩
                  refine ⟨_, rfl, ?_⟩
                  refine hK.out _ _ (s18_below hHeld (grown_drewN _ _)) (fun hHeld => ?_)
                  clear hK K
                  refine norm_ (a' := ?_) ?_ ?_
                  rotate_left
                  · show Act.put _ (some 82) _ = _; simp only [Act.put, List.setIfInBounds_toArray, List.set_cons_zero, List.set_cons_succ, i64_w, i32_w]; rfl
                  refine pureS_ 28 (N := some 83) (v := ?_) (a' := ?_) rfl rfl (by kernel_rfl) (fun _ _ _ h => h) (Or.inl ⟨by rfl, ?_⟩) ?_ ?_
                  rotate_left
                  · intro w'; go_simp; with_reducible rfl
                  rotate_left
                  · simp only [Act.put, List.setIfInBounds_toArray, List.set_cons_zero, List.set_cons_succ, i64_w, i32_w]; rfl
                  refine lastS_ 29 (N := none) rfl rfl (by kernel_rfl) (by decide) (fun K hK => ?_)
                  have hcs := hHeld.2.2.1
                  have hend := hHeld.2.2.2.2.2.2.2
                  have hfz := (HC.out.new hend).frozen s
                  have HEND := Aside0.mk hend
                  clear hend
                  refine skip_ (w1 := ?_) (by rfl) rfl ?_ ?_
                  rotate_left
                  · go_simp; rfl
                  refine hK.out _ _ ?_
                  clear hK K
                  refine done_ (by kernel_rfl) ?_
                  clear s0 hHeld hcs hfz hsum hpr hle hws hw0 hwt hwq
                  go_wp2
                  go_roundg (i - (t + 1))
                  case measure => omega
                  case rel => exact ⟨t + 1, by omega, by have := HU.out; omega, by omega, by go_num, ⟨World.grownBy.trans (World.grownBy.trans HGx.out (grown_none HEND.out _)) (set1_grown _ _ _ _)⟩, ⟨by rw [HAN.out]; exact row_step (HC.out.new HEND.out)⟩⟩
                · obtain rfl : t = i := by omega
                  have hlttz : ¬ (t : Int) < (t : Int) := by omega
                  go_wp2
                  have HGa := HGx
                  have HCa := HC
                  clear HGx HC ht1 ht2 hgg4
                  go_loopg [11] j (fun gg s11 wz => ∃ t' : Nat, 1 ≤ t' ∧ t' ≤ j ∧ j - t' ≤ gg ∧ s11 = .int .i64 t' ∧ Aside0 (w0.grownBy wz (some (gp + 1))) ∧ Aside0 (Row 3 (p2 + 1) (pC t j s) (vC t j s (accE t j s (t - 1 + (t' - 1)))) wz (gp + 1)))
                  case atStart => exact ⟨1, by omega, by omega, by omega, rfl, HGa, HCa⟩
                  case round =>
                    clear HGa HCa
                    have hi := HPE.out
                    obtain ⟨i, rfl⟩ : ∃ i, i = t := ⟨_, rfl⟩
                    clear hi
                    obtain ⟨t, ht1, ht2, hgg4, rfl, HGx, HC⟩ := hrel
                    by_cases hltt : t < j
                    · have hlttz : (t : Int) < (j : Int) := by omega
                      obtain ⟨u, hu⟩ : ∃ u, j - t = u := ⟨_, rfl⟩
                      obtain ⟨C1, d1, hr1⟩ := HR3.out.at t ht1 hltt (by omega)
                      obtain ⟨C2, d2, hr2⟩ := HR3.out.at u (by omega) (by omega) (by omega)
                      have hn1 : R ≠ gp + 1 := by have := HRL.out; omega
                      have hn4 : C1 ≠ gp + 1 := by have := hr1.1; have := HRL.out; omega
                      have hn5 : C2 ≠ gp + 1 := by have := hr2.1; have := HRL.out; omega
                      have hcut := cuts_across (w := i) ht1 hltt
                      have hk1 : s ≤ i * t + i * u := by rw [← Nat.mul_add, show t + u = j by omega, HPE.out]; omega
                      have hsum := fun (w' : World) (hg : wr.grownBy w' none) => sum_rows (w1 := i) (h1 := t) (w2 := i) (h2 := u) (k := s) ⟨hi1, by omega⟩ ⟨by omega, by omega⟩ ⟨hi1, by omega⟩ ⟨by omega, by omega⟩ hk1 w' ((hr1.2.kept HGx.out (by simp; omega)).new hg) ((hr2.2.kept HGx.out (by simp; omega)).new hg)
                      have hSE : SE i j (false, t) s = lmin (sums (E i t) (E i u) (i * t) (i * u) s) := by rw [← hu]; rfl
                      have hmem : ((false, t) : Bool × Nat) ∈ cutsN i j := List.mem_of_getElem? hcut
                      have hse := SE_bound (k := s) hmem ⟨hi1, by omega⟩ ⟨hj1, by omega⟩ (by rw [HPE.out]; omega)
                      have hpi := price_in (w := i) (h := j) false ⟨hi1, by omega⟩ ⟨hj1, by omega⟩
                      have hstep := accE_succ (k := s) hcut
                      have hlen : i - 1 + (t - 1) < (cutsN i j).length := (List.getElem?_eq_some_iff.1 hcut).1
                      have hacb := accE_in (w := i) (h := j) (k := s) (n := i - 1 + (t - 1)) ⟨hi1, by omega⟩ ⟨hj1, by omega⟩ (by rw [HPE.out]; omega) (by omega)
                      rw [hSE] at hstep hse
                      rw [show i - 1 + (t - 1) + 1 = i - 1 + (t + 1 - 1) by omega] at hstep
                      have hpr := fun w => spec_brPrice.calls (i : Int) (j : Int) false _ w (price_eq false ⟨hi1, by omega⟩ ⟨hj1, by omega⟩)
                      obtain ⟨sv, hsv⟩ : ∃ sv, lmin (sums (E i t) (E i u) (i * t) (i * u) s) = sv := ⟨_, rfl⟩
                      obtain ⟨pv, hpv⟩ : ∃ pv, price i j false = pv := ⟨_, rfl⟩
                      obtain ⟨ac, hac⟩ : ∃ ac, accE i j s (i - 1 + (t - 1)) = ac := ⟨_, rfl⟩
                      obtain ⟨an, han⟩ : ∃ an, accE i j s (i - 1 + (t + 1 - 1)) = an := ⟨_, rfl⟩
                      obtain ⟨x, hx⟩ : ∃ x, sv + pv = x := ⟨_, rfl⟩
                      obtain ⟨p1, hp1⟩ : ∃ p1, i * t = p1 := ⟨_, rfl⟩
                      obtain ⟨q1, hq1e⟩ : ∃ q1, i * u = q1 := ⟨_, rfl⟩
                      rw [hsv] at hsum hse hstep
                      rw [hpv] at hstep hpi hpr
                      rw [hac, hx, han] at hstep
                      rw [hac] at hacb HC
                      rw [hp1, hq1e] at hsum
                      rw [hp1] at d1
                      rw [hq1e] at d2
                      have hle := fun w => spec_brLess.calls ac x an w (by rw [less_eq, hstep])
                      have hws : IntKind.i64.wrap (sv + pv) = x := by rw [IntKind.wrap_i64]; omega
                      have hw0 : IntKind.i64.wrap ((j : Int) - (t : Int)) = (u : Int) := by rw [IntKind.wrap_i64]; omega
                      have hwt : wrap64 ((j : Int) - (t : Int)) = (u : Int) := by unfold wrap64; omega
                      have hwq : wrap64 (sv + pv) = x := by unfold wrap64; omega
                      have bit : (t : Int) < (b : Int) + 1 := by omega
                      have bnt : t < b + 1 := by omega
                      have biu : (u : Int) < (b : Int) + 1 := by omega
                      have bnu : u < b + 1 := by omega
                      have bis : (s : Int) < (p2 : Int) + 1 := by omega
                      have bns : s < p2 + 1 := by omega
                      have hpc0 := cell_grown ((blk_cell HP0.out 0).trans rfl : w0.cell? ⟨gp, 0, none⟩ = some (.int .i64 (i : Int))) HGx.out (by simp)
                      have hpc1 := cell_grown ((blk_cell HP0.out 1).trans rfl : w0.cell? ⟨gp, 1, none⟩ = some (.int .i64 (j : Int))) HGx.out (by simp)
                      have hcc : wr.cell? ⟨gp + 1, s, none⟩ = some (.int .i64 ac) := by have h := HC.out.cell s (by omega) (.inr (.inl rfl)); unfold vC at h; rw [if_pos rfl] at h; exact h
                      have s0 : S22 gp R t u (gp + 1) s (i : Int) (j : Int) ac (.slice (some ⟨C1, 0, none⟩) (p1 + 1) (p1 + 1)) (.slice (some ⟨C2, 0, none⟩) (q1 + 1) (q1 + 1)) wr wr.drew := s22_below ⟨hpc0, hpc1, hcc, cell_grown d1 HGx.out (by simp; omega), cell_grown d2 HGx.out (by simp; omega), World.grownBy.refl _ _⟩ (grown_drew wr)
                      clear hSE hmem hsv hpv hac hx hp1 hq1e hstep hse hpi hacb hcut hk1 d1 d2 hr1 hr2 hn1 hn4 hn5 hpc0 hpc1 hcc hlen
                      have HU := Aside0.mk hu
                      have HAN := Aside0.mk han
                      clear hu han
                      go_wp2
                      refine start_ (n := 24) (S := (fun w' => w'.cell? ⟨gp, 0, none⟩ = some (.int .i64 (i : Int)) ∧ w'.cell? ⟨gp, 1, none⟩ = some (.int .i64 (j : Int)) ∧ w'.cell? ⟨gp + 1, s, none⟩ = some (.int .i64 ac) ∧ w'.cell? ⟨R, t, none⟩ = some (.slice (some ⟨C1, 0, none⟩) (p1 + 1) (p1 + 1)) ∧ w'.cell? ⟨R, u, none⟩ = some (.slice (some ⟨C2, 0, none⟩) (q1 + 1) (q1 + 1)) ∧ wr.grownBy w' none)) (ds := [23]) _ (by kernel_rfl) rfl rfl (s0) (fun hHeld => ?_)
                      refine pureS_ 0 (N := some 89) (v := ?_) (a' := ?_) rfl rfl (by kernel_rfl) (fun _ _ _ h => h) (Or.inl ⟨by rfl, ?_⟩) ?_ ?_
                      rotate_left
                      · intro w'; go_simp; with_reducible rfl
                      rotate_left
                      · simp only [Act.put, List.setIfInBounds_toArray, List.set_cons_zero, List.set_cons_succ, i64_w, i32_w]; rfl
                      refine pureS_ 1 (N := some 90) (v := ?_) (a' := ?_) rfl rfl (by kernel_rfl) (fun _ _ _ h => h) (Or.inl ⟨by rfl, ?_⟩) ?_ ?_
                      rotate_left
                      · intro w'; go_simp; with_reducible rfl
                      rotate_left
                      · simp only [Act.put, List.setIfInBounds_toArray, List.set_cons_zero, List.set_cons_succ, i64_w, i32_w]; rfl
                      refine pureS_ 2 (N := some 91) (v := ?_) (a' := ?_) rfl rfl (by kernel_rfl) (fun _ _ _ h => h) (Or.inl ⟨by rfl, ?_⟩) ?_ ?_
                      rotate_left
                      · intro w'; go_simp; with_reducible rfl
                      rotate_left
                      · simp only [Act.put, List.setIfInBounds_toArray, List.set_cons_zero, List.set_cons_succ, i64_w, i32_w]; rfl
                      refine pureS_ 3 (N := some 92) (v := ?_) (a' := ?_) rfl rfl (by kernel_rfl) (fun _ _ _ h => h) (Or.inl ⟨by rfl, ?_⟩) ?_ ?_
                      rotate_left
                      · intro w'; go_simp; with_reducible rfl
                      rotate_left
                      · simp only [Act.put, List.setIfInBounds_toArray, List.set_cons_zero, List.set_cons_succ, i64_w, i32_w]; rfl
                      refine pureS_ 4 (N := some 93) (v := ?_) (a' := ?_) rfl rfl (by kernel_rfl) (fun _ _ _ h => h) (Or.inl ⟨by rfl, ?_⟩) ?_ ?_
                      rotate_left
                      · intro w'; go_simp; with_reducible rfl
                      rotate_left
                      · simp only [Act.put, List.setIfInBounds_toArray, List.set_cons_zero, List.set_cons_succ, i64_w, i32_w]; rfl
                      refine pureS_ 6 (N := some 95) (v := ?_) (a' := ?_) rfl rfl (by kernel_rfl) (fun _ _ _ h => h) (Or.inl ⟨by rfl, ?_⟩) ?_ ?_
                      rotate_left
                      · intro w'; go_simp; with_reducible rfl
                      rotate_left
                      · simp only [Act.put, List.setIfInBounds_toArray, List.set_cons_zero, List.set_cons_succ, i64_w, i32_w]; rfl
                      refine pureS_ 7 (N := some 96) (v := ?_) (a' := ?_) rfl rfl (by kernel_rfl) (fun _ _ _ h => h) (Or.inl ⟨by rfl, ?_⟩) ?_ ?_
                      rotate_left
                      · intro w'; go_simp; with_reducible rfl
                      rotate_left
                      · simp only [Act.put, List.setIfInBounds_toArray, List.set_cons_zero, List.set_cons_succ, i64_w, i32_w]; rfl
                      refine pureS_ 8 (N := some 97) (v := ?_) (a' := ?_) rfl rfl (by kernel_rfl) (fun _ _ _ h => h) (Or.inl ⟨by rfl, ?_⟩) ?_ ?_
                      rotate_left
                      · intro w'; go_simp; with_reducible rfl
                      rotate_left
                      · simp only [Act.put, List.setIfInBounds_toArray, List.set_cons_zero, List.set_cons_succ, i64_w, i32_w]; rfl
                      refine pureS_ 10 (N := some 99) (v := ?_) (a' := ?_) rfl rfl (by kernel_rfl) (fun _ _ _ h => h) (Or.inl ⟨by rfl, ?_⟩) ?_ ?_
                      rotate_left
                      · intro w'; go_simp; with_reducible rfl
                      rotate_left
                      · simp only [Act.put, List.setIfInBounds_toArray, List.set_cons_zero, List.set_cons_succ, i64_w, i32_w]; rfl
                      refine pureS_ 11 (N := some 100) (v := ?_) (a' := ?_) rfl rfl (by kernel_rfl) (fun _ _ _ h => h) (Or.inl ⟨by rfl, ?_⟩) ?_ ?_
                      rotate_left
                      · intro w'; go_simp; with_reducible rfl
                      rotate_left
                      · simp only [Act.put, List.setIfInBounds_toArray, List.set_cons_zero, List.set_cons_succ, i64_w, i32_w]; rfl
                      refine pureS_ 12 (N := some 101) (v := ?_) (a' := ?_) rfl rfl (by kernel_rfl) (fun _ _ _ h => h) (Or.inl ⟨by rfl, ?_⟩) ?_ ?_
                      rotate_left
                      · intro w'; go_simp; with_reducible rfl
                      rotate_left
                      · simp only [Act.put, List.setIfInBounds_toArray, List.set_cons_zero, List.set_cons_succ, i64_w, i32_w]; rfl
                      refine pureS_ 13 (N := some 102) (v := ?_) (a' := ?_) rfl rfl (by kernel_rfl) (fun _ _ _ h => h) (Or.inl ⟨by rfl, ?_⟩) ?_ ?_
                      rotate_left
                      · intro w'; go_simp; with_reducible rfl
                      rotate_left
                      · simp only [Act.put, List.setIfInBounds_toArray, List.set_cons_zero, List.set_cons_succ, i64_w, i32_w]; rfl
                      refine pureS_ 14 (N := some 103) (v := ?_) (a' := ?_) rfl rfl (by kernel_rfl) (fun _ _ _ h => h) (Or.inl ⟨by rfl, ?_⟩) ?_ ?_
                      rotate_left
                      · intro w'; go_simp; with_reducible rfl
                      rotate_left
                      · simp only [Act.put, List.setIfInBounds_toArray, List.set_cons_zero, List.set_cons_succ, i64_w, i32_w]; rfl
                      refine pureS_ 16 (N := some 105) (v := ?_) (a' := ?_) rfl rfl (by kernel_rfl) (fun _ _ _ h => h) (Or.inl ⟨by rfl, ?_⟩) ?_ ?_
                      rotate_left
                      · intro w'; go_simp; with_reducible rfl
                      rotate_left
                      · simp only [Act.put, List.setIfInBounds_toArray, List.set_cons_zero, List.set_cons_succ, i64_w, i32_w]; rfl
                      refine takeS_ 5 (N := some 94) (v := ?_) (a' := ?_) rfl rfl (by kernel_rfl) (fun _ _ _ h => h) (Or.inl ⟨by rfl, ?_⟩) hHeld ?_ ?_
                      rotate_left
                      · rintro w' ⟨s0, s1, s2, s3, s4, s5⟩; go_simp; with_reducible rfl
                      rotate_left
                      · simp only [Act.put, List.setIfInBounds_toArray, List.set_cons_zero, List.set_cons_succ, i64_w, i32_w]; rfl
                      refine takeS_ 9 (N := some 98) (v := ?_) (a' := ?_) rfl rfl (by kernel_rfl) (fun _ _ _ h => h) (Or.inl ⟨by rfl, ?_⟩) hHeld ?_ ?_
                      rotate_left
                      · rintro w' ⟨s0, s1, s2, s3, s4, s5⟩; go_simp; with_reducible rfl
                      rotate_left
                      · simp only [Act.put, List.setIfInBounds_toArray, List.set_cons_zero, List.set_cons_succ, i64_w, i32_w]; rfl
                      refine takeS_ 15 (N := some 104) (v := ?_) (a' := ?_) rfl rfl (by kernel_rfl) (fun _ _ _ h => h) (Or.inl ⟨by rfl, ?_⟩) hHeld ?_ ?_
                      rotate_left
                      · rintro w' ⟨s0, s1, s2, s3, s4, s5⟩; go_simp; with_reducible rfl
                      rotate_left
                      · simp only [Act.put, List.setIfInBounds_toArray, List.set_cons_zero, List.set_cons_succ, i64_w, i32_w]; rfl
                      refine takeS_ 18 (N := some 107) (v := ?_) (a' := ?_) rfl rfl (by kernel_rfl) (fun _ _ _ h => h) (Or.inl ⟨by rfl, ?_⟩) hHeld ?_ ?_
                      rotate_left
                      · rintro w' ⟨s0, s1, s2, s3, s4, s5⟩; go_simp; with_reducible rfl
                      rotate_left
                      · simp only [Act.put, List.setIfInBounds_toArray, List.set_cons_zero, List.set_cons_succ, i64_w, i32_w]; rfl
                      refine oneS_ 17 (N := some 106) rfl rfl (by kernel_rfl) (by decide) (fun K hK => ?_)
                      refine goes_ Try.func42 (by kernel_rfl) rfl #[.slice (some ⟨C1, 0, none⟩) (p1 + 1) (p1 + 1), .slice (some ⟨C2, 0, none⟩) (q1 + 1) (q1 + 1), .int .i64 s] (by rfl) rfl rfl (by (try simp only [List.map_toArray, List.map_cons, List.map_nil]); first | done | rfl) ?_
                      refine (hsum _ hHeld.2.2.2.2.2).mono ?_
                      rintro e w' ⟨rfl, ⟨nd, rfl⟩⟩
                      refine ⟨_, rfl, ?_⟩
                      refine hK.out _ _ (s22_below hHeld (grown_drewN _ _)) (fun hHeld => ?_)
                      clear hK K
                      refine norm_ (a' := ?_) ?_ ?_
                      rotate_left
                      · show Act.put _ (some 106) _ = _; simp only [Act.put, List.setIfInBounds_toArray, List.set_cons_zero, List.set_cons_succ, i64_w, i32_w]; rfl
                      refine oneS_ 19 (N := some 108) rfl rfl (by kernel_rfl) (by decide) (fun K hK => ?_)
                      refine goes_ Try.func43 (by kernel_rfl) rfl #[.agg #[.int .i64 i, .int .i64 j], .bool false] (by rfl) rfl rfl (by (try simp only [List.map_toArray, List.map_cons, List.map_nil]); first | done | rfl) ?_
                      refine (hpr _).mono ?_
                      rintro e w6 ⟨rfl, hb6⟩
                      refine ⟨_, rfl, ?_⟩
                      refine hK.out _ _ (s22_below hHeld (grown_of_below hb6 none)) (fun hHeld => ?_)
                      clear hK K
                      refine norm_ (a' := ?_) ?_ ?_
                      rotate_left
                      · show Act.put _ (some 108) _ = _; simp only [Act.put, List.setIfInBounds_toArray, List.set_cons_zero, List.set_cons_succ, i64_w, i32_w]; rfl
                      refine pureS_ 20 (N := some 109) (v := ?_) (a' := ?_) rfl rfl (by kernel_rfl) (fun _ _ _ h => h) (Or.inl ⟨by rfl, ?_⟩) ?_ ?_
                      rotate_left
                      · intro w'; go_simp; with_reducible rfl
                      rotate_left
                      · simp only [Act.put, List.setIfInBounds_toArray, List.set_cons_zero, List.set_cons_succ, i64_w, i32_w]; rfl
                      refine oneS_ 21 (N := some 110) rfl rfl (by kernel_rfl) (by decide) (fun K hK => ?_)
                      refine goes_ Try.func57 (by kernel_rfl) rfl #[.int .i64 ac, .int .i64 x] (by rfl) rfl rfl (by (try simp only [List.map_toArray, List.map_cons, List.map_nil]); first | done | rfl) ?_
                      refine (hle _).mono ?_
                      rintro e w' ⟨rfl, ⟨nd2, rfl⟩⟩
                      refine ⟨_, rfl, ?_⟩
                      refine hK.out _ _ (s22_below hHeld (grown_drewN _ _)) (fun hHeld => ?_)
                      clear hK K
                      refine norm_ (a' := ?_) ?_ ?_
                      rotate_left
                      · show Act.put _ (some 110) _ = _; simp only [Act.put, List.setIfInBounds_toArray, List.set_cons_zero, List.set_cons_succ, i64_w, i32_w]; rfl
                      refine pureS_ 22 (N := some 111) (v := ?_) (a' := ?_) rfl rfl (by kernel_rfl) (fun _ _ _ h => h) (Or.inl ⟨by rfl, ?_⟩) ?_ ?_
                      rotate_left
                      · intro w'; go_simp; with_reducible rfl
                      rotate_left
                      · simp only [Act.put, List.setIfInBounds_toArray, List.set_cons_zero, List.set_cons_succ, i64_w, i32_w]; rfl
                      refine lastS_ 23 (N := none) rfl rfl (by kernel_rfl) (by decide) (fun K hK => ?_)
                      have hcs := hHeld.2.2.1
                      have hend := hHeld.2.2.2.2.2
                      have hfz := (HC.out.new hend).frozen s
                      have HEND := Aside0.mk hend
                      clear hend
                      refine skip_ (w1 := ?_) (by rfl) rfl ?_ ?_
                      rotate_left
                      · go_simp; rfl
                      refine hK.out _ _ ?_
                      clear hK K
                      refine done_ (by kernel_rfl) ?_
                      clear s0 hHeld hcs hfz hsum hpr hle hws hw0 hwt hwq
                      go_wp2
                      go_roundg (j - (t + 1))
                      case measure => omega
                      case rel => exact ⟨t + 1, by omega, by have := HU.out; omega, by omega, by go_num, ⟨World.grownBy.trans (World.grownBy.trans HGx.out (grown_none HEND.out _)) (set1_grown _ _ _ _)⟩, ⟨by rw [HAN.out]; exact row_step (HC.out.new HEND.out)⟩⟩
                    · obtain rfl : t = j := by omega
                      have hlttz : ¬ (t : Int) < (t : Int) := by omega
                      have hfull := accE_full (w := i) (h := t) (k := s) (n := i - 1 + (t - 1)) ⟨hi1, by omega⟩ ⟨ht1, by omega⟩ (by omega) (by rw [HPE.out]; omega) (cutsN_length _ _).symm
                      rw [hfull] at HC
                      have HCn : Aside0 (Row 3 (p2 + 1) (fun k => k < s + 1 ∨ k = p2) (fun k => .int .i64 (E i t k)) wr (gp + 1)) := ⟨HC.out.imp (fun k _ hk => by
                        unfold pC
                        rcases hk with h | h
                        · omega
                        · exact .inr (.inr (by rw [h, HPE.out]))) (fun k _ _ => by
                        unfold vC
                        by_cases he : k = s
                        · rw [if_pos he, he]
                        · rw [if_neg he])⟩
                      clear hfull HC
                      go_wp2
                      go_roundg (p2 - (s + 1))
                      case measure => omega
                      case rel => exact ⟨s + 1, by omega, by omega, by omega, by go_num, HGx, HCn⟩
            · obtain rfl : s = p2 := by omega
              have hltsz : ¬ (s : Int) < (s : Int) := by omega
              have HRx := TabR.kept HR3.out (Nat.le_refl _) (Nat.le_refl _) HG3.out (by have := HRL.out; simp; omega) (fun r hr => by injection hr with hr; omega)
              obtain ⟨xo, hxo⟩ := HRx.any j (by omega)
              have hfr := HRx.frozen j
              have HRX := Aside0.mk HRx
              have b1 : (j : Int) < (b : Int) + 1 := by omega
              have b2 : j < b + 1 := by omega
              clear HRx
              go_wp2
              have hgs := set1_grown wr R j (.slice (some ⟨gp + 1, 0, none⟩) (s + 1) (s + 1))
              have HGS := Aside0.mk hgs
              have HGW := Aside0.mk HG3.out.size
              have hput := HRX.out.put (Q' := QR i R (wr.setCell ⟨R, j, none⟩ (.slice (some ⟨gp + 1, 0, none⟩) (i * j + 1) (i * j + 1))).heap.size (wr.setCell ⟨R, j, none⟩ (.slice (some ⟨gp + 1, 0, none⟩) (i * j + 1) (i * j + 1)))) (gp + 1)
                (fun g' i' _ hq => hq.kept (Nat.le_refl _) (by have h1 := HWR.out; have h2 := HG3.out.size; have h3 := (set1_grown wr R j (.slice (some ⟨gp + 1, 0, none⟩) (i * j + 1) (i * j + 1))).size; omega) (set1_grown _ _ _ _) (fun r hr => by injection hr with hr; omega))
                ⟨⟨by have := HRL.out; omega, by have h1 := HWR.out; have h2 := HG3.out.size; have h3 := (set1_grown wr R j (.slice (some ⟨gp + 1, 0, none⟩) (i * j + 1) (i * j + 1))).size; omega⟩, by
                  have h := HC.out.imp (q := fun _ => True) (u := fun k => .int .i64 (E i j k)) (fun k hk _ => by omega) (fun _ _ _ => rfl)
                  rw [HPE.out]
                  exact h.set_far (by have := HRL.out; omega)⟩
              rw [HPE.out] at hput
              have HPUT := Aside0.mk hput
              generalize wr.setCell ⟨R, j, none⟩ (.slice (some ⟨gp + 1, 0, none⟩) (s + 1) (s + 1)) = w8 at HGS HPUT ⊢
              clear hgs hput hxo hfr b1 b2
              have HA1 := Aside0.mk (World.grownBy.trans (grown_none (World.grownBy.refl w0 none) (some (gp + 1))) HG3.out)
              have HT4 := Aside0.mk (TabE.kept (TabE.kept HT3.out HG.out (Nat.le_refl _) HG3.out (fun r hr => by injection hr with hr; have := HRL.out; omega)) HG.out (Nat.le_refl _) HGS.out (fun r hr => by injection hr with hr; omega))
              have HBX4 := Aside0.mk (blk_grown' (blk_grown' HBX3.out HG3.out (by have := HG.out; have := HRL.out; simp; omega)) HGS.out (by have := HG.out; simp; omega))
              have HBL4 := Aside0.mk (below_new (below_new HBL3.out HG3.out (fun r hr => by injection hr with hr; have := HG.out; have := HRL.out; omega) (by rw [HNB.out]; exact Nat.le_refl _)) HGS.out (fun r hr => by injection hr with hr; have := HG.out; omega) (by rw [HNB.out]; exact Nat.le_refl _))
              go_roundg (b + 1 - (j + 1))
              case measure => omega
              case rel => exact ⟨j + 1, by omega, by omega, by omega, by go_num, HT4, HPUT, HBX4, HBL4⟩
        · obtain rfl : j = b + 1 := by omega
          have hltjz : ¬ ((b + 1 : Nat) : Int) ≤ (b : Int) := by omega
          have b1 : (i : Int) < (a : Int) + 1 := by omega
          have b4 : i < a + 1 := by omega
          obtain ⟨xo, hxo⟩ := HT.out.any i (by omega)
          have hfr := HT.out.frozen i
          go_wp2
          have hgs := set1_grown wr (nb + 1) i (.slice (some ⟨R, 0, none⟩) (b + 1) (b + 1))
          have HGS := Aside0.mk hgs
          have HTP := Aside0.mk (HT.out.put (Q' := QE b (nb + 1) (wr.setCell ⟨nb + 1, i, none⟩ (.slice (some ⟨R, 0, none⟩) (b + 1) (b + 1))).heap.size (wr.setCell ⟨nb + 1, i, none⟩ (.slice (some ⟨R, 0, none⟩) (b + 1) (b + 1)))) R (fun g' i' _ hq => hq.kept (Nat.le_trans (Nat.le_of_lt HR.out.lt) hgs.size) hgs (fun r hr => by injection hr with hr; omega))
            ⟨⟨HG.out, Nat.lt_of_lt_of_le HR.out.lt hgs.size⟩, TabR.kept HR.out (Nat.le_of_lt HG.out) hgs.size hgs (by have := HG.out; simp; omega) (fun r hr => by injection hr with hr; have := HG.out; omega)⟩)
          generalize wr.setCell ⟨nb + 1, i, none⟩ (.slice (some ⟨R, 0, none⟩) (b + 1) (b + 1)) = w8 at HGS HTP ⊢
          clear hgs hxo hfr
          go_roundg (a + 1 - (i + 1))
          case measure => omega
          case rel => exact ⟨i + 1, by omega, by omega, by omega, by go_num, HTP, ⟨blk_grown' HBX.out HGS.out (by simp)⟩, ⟨below_new HBL.out HGS.out (fun r hr => by injection hr with hr; omega) (by rw [HNB.out]; exact Nat.le_refl _)⟩⟩
    · obtain rfl : i = a + 1 := by omega
      have hltz : ¬ ((a + 1 : Nat) : Int) ≤ (a : Int) := by omega
      go_wp2
      go_ret
      exact ⟨nb + 1, rfl, HT, by rw [HNB.out]; exact HBL.out⟩
end Go.Proofs.Ytkoplphcdkmilaa.All
end
