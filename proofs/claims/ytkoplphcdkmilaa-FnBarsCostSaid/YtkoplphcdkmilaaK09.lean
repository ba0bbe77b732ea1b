/- Texts of this claim joined, in the order in which they build: GCount, GCount2. -/
import Derived.Shelf.Abstract
import Derived.StillTailTactics
import Derived.RegionTactic
import Derived.BigRegion
import Derived.Deep.CutRange
import Derived.Test.YtkoplphcdkmilaaK08
section
namespace Go.Proofs.Ytkoplphcdkmilaa.All
open Go.RowKit Go.Proofs.YtkoplphcdkmilaaW.PrintWords Go.Proofs.YtkoplphcdkmilaaW.PrintLast Go.Proofs.YtkoplphcdkmilaaW.PrintMore Go.Shelf Go.Maps Go.Joins Go.Proofs.Ytkoplphcdkmilaa.PEv Go.Proofs.Ytkoplphcdkmilaa.PCount Go.Proofs.Ytkoplphcdkmilaa.GBar Go.Proofs.Ytkoplphcdkmilaa.PImpl
attribute [local go_sem] max2_int min2_int
set_option linter.unusedVariables false
set_option linter.unusedSimpArgs false

@[reducible] noncomputable def RC := plainElem (H := Unit) Try.prog 3
theorem zero3 (w : World) : (zeroValue 3).run Try.prog w = .ok (.int .i64 0) w := by kernel_rfl
variable (o : Bool)
def MemoC (W : World) (bm : Nat) : Prop := Memo RC (.lit (.int .i64 0)) (fun _ a b d => d = .lit (.int .i64 (cnt o a b))) W bm
theorem MemoC.kept {o : Bool} {W W' : World} {bm : Nat} {row : Option Nat} (h : MemoC o W bm) (hg : W.grownBy W' row) (hne : some bm ≠ row) : MemoC o W' bm := Memo.kept h hg hne (fun _ _ _ h => h)
variable (Bk Bo Bf bm : Nat)
abbrev cntF (Bk Bo Bf : Nat) : Value := .func (.func 66) #[] #[.pointer (some ⟨Bk, 0, none⟩), .pointer (some ⟨Bo, 0, none⟩), .pointer (some ⟨Bf, 0, none⟩)]
structure EnvC (W : World) : Prop where
  k : W.heap[Bk]? = some (.cells #[.map (some bm)] 89 (0, 0))
  o : W.heap[Bo]? = some (.cells #[.bool o] 4 (0, 0))
  f : W.heap[Bf]? = some (.cells #[cntF Bk Bo Bf] 81 (0, 0))
structure ApartC : Prop where
  k : Bk ≠ bm
  o : Bo ≠ bm
  f : Bf ≠ bm
theorem EnvC.kept {o : Bool} {Bk Bo Bf bm : Nat} {W W' : World} (ha : ApartC Bk Bo Bf bm) (h : EnvC o Bk Bo Bf bm W) (hg : W.grownBy W' (some bm)) : EnvC o Bk Bo Bf bm W' :=
  ⟨blk_grown' h.k hg (by simp; exact ha.k), blk_grown' h.o hg (by simp; exact ha.o), blk_grown' h.f hg (by simp; exact ha.f)⟩
structure StC (a b : Int) (W w : World) : Prop where
  m : MemoC o w bm
  ab : Absent RC w bm a b
  far : ∀ a' b', okB a' b' → a + b < a' + b' → Absent RC W bm a' b' → Absent RC w bm a' b'
  g : W.grownBy w (some bm)
variable {o bm} {a b : Int} {W w w' : World}
theorem StC.step (h : StC o bm a b W w) {row : Option Nat} (hg : w.grownBy w' row) (hne : some bm ≠ row) (hg2 : W.grownBy w' (some bm)) : StC o bm a b W w' :=
  ⟨h.m.kept hg hne, h.ab.kept hg hne, fun a' b' h1 h2 h3 => (h.far a' b' h1 h2 h3).kept hg hne, hg2⟩
theorem StC.new (h : StC o bm a b W w) (hg : w.grownBy w' none) : StC o bm a b W w' := h.step hg (by simp) (World.grownBy.trans h.g (grown_none hg _))
theorem StC.set (h : StC o bm a b W w) {N : Nat} (hg : w.grownBy w' (some N)) (hN : W.heap.size ≤ N) (hb : bm < W.heap.size) : StC o bm a b W w' := h.step hg (by simp; omega) (grown_far h.g hg hN)
structure Got (o : Bool) (bm : Nat) (a b : Int) (W w : World) : Prop where
  m : MemoC o w bm
  g : W.grownBy w (some bm)
  far : ∀ a' b', okB a' b' → a + b < a' + b' → Absent RC W bm a' b' → Absent RC w bm a' b'
theorem StC.call (h : StC o bm a b W w) {x y : Int} (hc : Got o bm x y w w') (hok : okB a b) (hlt : x + y < a + b) : StC o bm a b W w' :=
  ⟨hc.m, hc.far a b hok hlt h.ab, fun a' b' h1 h2 h3 => hc.far a' b' h1 (by omega) (h.far a' b' h1 h2 h3), World.grownBy.trans h.g hc.g⟩

theorem cnt_one (o : Bool) {a b : Int} (hok : okB a b) (hp : a * b = 1) : cnt o a b = 1 := by
  have : a.toNat * b.toNat = 1 := by
    have h1 : ((a.toNat * b.toNat : Nat) : Int) = 1 := by
      obtain ⟨⟨h1, _⟩, h3, _⟩ := hok
      rw [Int.natCast_mul, Int.toNat_of_nonneg (by omega), Int.toNat_of_nonneg (by omega)]
      exact hp
    omega
  unfold cnt
  rw [N_one o this]
  rfl
theorem held_below {w5 w' w'' : World} {nb n11 : Nat} {u v x y : Value} (h : w'.cell? ⟨nb, 0, none⟩ = some u ∧ w'.cell? ⟨nb, 1, none⟩ = some v ∧ w'.cell? ⟨n11, 0, none⟩ = some x ∧ w'.cell? ⟨n11, 1, none⟩ = some y ∧ w5.grownBy w' none) (hb : w'.grownBy w'' none) :
    w''.cell? ⟨nb, 0, none⟩ = some u ∧ w''.cell? ⟨nb, 1, none⟩ = some v ∧ w''.cell? ⟨n11, 0, none⟩ = some x ∧ w''.cell? ⟨n11, 1, none⟩ = some y ∧ w5.grownBy w'' none :=
  ⟨cell_grown h.1 hb (by simp), cell_grown h.2.1 hb (by simp), cell_grown h.2.2.1 hb (by simp), cell_grown h.2.2.2.1 hb (by simp), World.grownBy.trans h.2.2.2.2 hb⟩
theorem held_g {w5 w' : World} {nb n11 : Nat} {u v x y : Value} (h : w'.cell? ⟨nb, 0, none⟩ = some u ∧ w'.cell? ⟨nb, 1, none⟩ = some v ∧ w'.cell? ⟨n11, 0, none⟩ = some x ∧ w'.cell? ⟨n11, 1, none⟩ = some y ∧ w5.grownBy w' none) : w5.grownBy w' none := h.2.2.2.2
abbrev Hd (o : Bool) (bm : Nat) (a b : Int) (W w6 : World) (Bf n11 n12 : Nat) (f x1 y1 x2 y2 : Value) (w' : World) : Prop :=
  w'.cell? ⟨Bf, 0, none⟩ = some f ∧ w'.cell? ⟨n11, 0, none⟩ = some x1 ∧ w'.cell? ⟨n11, 1, none⟩ = some y1 ∧ w'.cell? ⟨n12, 0, none⟩ = some x2 ∧ w'.cell? ⟨n12, 1, none⟩ = some y2 ∧ StC o bm a b W w' ∧ w6.grownBy w' (some bm)
theorem Hd.new {o : Bool} {bm : Nat} {a b : Int} {W w6 w' w'' : World} {Bf n11 n12 : Nat} {f x1 y1 x2 y2 : Value} (h : Hd o bm a b W w6 Bf n11 n12 f x1 y1 x2 y2 w') (hg : w'.grownBy w'' none) : Hd o bm a b W w6 Bf n11 n12 f x1 y1 x2 y2 w'' :=
  ⟨cell_grown h.1 hg (by simp), cell_grown h.2.1 hg (by simp), cell_grown h.2.2.1 hg (by simp), cell_grown h.2.2.2.1 hg (by simp), cell_grown h.2.2.2.2.1 hg (by simp), h.2.2.2.2.2.1.new hg, World.grownBy.trans h.2.2.2.2.2.2 (grown_none hg _)⟩
theorem Hd.call {o : Bool} {bm : Nat} {a b : Int} {W w6 w' w'' : World} {Bf n11 n12 : Nat} {f x1 y1 x2 y2 : Value} (h : Hd o bm a b W w6 Bf n11 n12 f x1 y1 x2 y2 w') (hf : Bf ≠ bm) (h1 : n11 ≠ bm) (h2 : n12 ≠ bm) {x y : Int} (hc : Got o bm x y w' w'') (hok : okB a b) (hlt : x + y < a + b) : Hd o bm a b W w6 Bf n11 n12 f x1 y1 x2 y2 w'' :=
  ⟨cell_grown h.1 hc.g (by simp; exact hf), cell_grown h.2.1 hc.g (by simp; exact h1), cell_grown h.2.2.1 hc.g (by simp; exact h1), cell_grown h.2.2.2.1 hc.g (by simp; exact h2), cell_grown h.2.2.2.2.1 hc.g (by simp; exact h2), h.2.2.2.2.2.1.call hc hok hlt, World.grownBy.trans h.2.2.2.2.2.2 hc.g⟩
theorem way_ev {o : Bool} {n k : Nat} (ho : o = true) : cut (way o n k) = cut (bin n k) := by rw [ho]; rfl
def some_ (o : Bool) (w h i : Nat) : Nat := (((cutsN w h).map (term o w h)).take i).sum

set_option maxHeartbeats 4000000 in
set_option maxRecDepth 100000 in
theorem count_any (hap : ApartC Bk Bo Bf bm) : ∀ (s : Nat) (a b : Int) (W : World), okB a b → (a + b).toNat ≤ s → MemoC o W bm → EnvC o Bk Bo Bf bm W →
    Calls Try.prog 66 #[.agg #[.int .i64 a, .int .i64 b], .pointer (some ⟨Bk, 0, none⟩), .pointer (some ⟨Bo, 0, none⟩), .pointer (some ⟨Bf, 0, none⟩)] W fun e w' => e = .returned (.int .i64 (cnt o a b)) ∧ Got o bm a b W w' := by
  intro s
  induction s with
  | zero =>
    intro a b W hok hs hm he
    obtain ⟨h1, h2⟩ := hok
    omega
  | succ s ih =>
    intro a b W hok hs hm he
    have hu25 := Try.underlying25
    have hsq := fun w => impl_Bar_squares.calls a b _ w (squares_eq hok)
    have hpb := prod_in hok
    by_cases hp : a * b = 1
    · have hpt : (a * b == 1) = true := beq_iff_eq.2 hp
      rw [cnt_one o hok hp]
      have HM := Aside0.mk hm
      clear hm he ih hp hok
      obtain ⟨q, hq⟩ : ∃ q, a * b = q := ⟨_, rfl⟩
      rw [hq] at hsq hpb hpt
      clear hq
      go_enter Try.func66, Try.ntmps66
      go_wp2_with (go_at_call 31; refine (hsq _).mono ?_; rintro e w2 ⟨rfl, hb2⟩; have HB2 := Aside0.mk hb2; clear hb2)
      go_ret
      have hg : W.grownBy w2 none := World.grownBy.trans (World.grownBy_alloc _ _ _) (grown_of_below HB2.out none)
      exact ⟨rfl, HM.out.kept hg (by simp), grown_none hg _, fun _ _ _ _ h => h.kept hg (by simp)⟩
    · have hpt : (a * b == 1) = false := beq_eq_false_iff_ne.2 hp
      have HP := Aside0.mk hp
      obtain ⟨n, D, hown, hroom, hmem⟩ := hm
      have HMEM := Aside0.mk hmem
      have HROOM := Aside0.mk hroom
      have HOWN := Aside0.mk hown
      have HE := Aside0.mk he
      have HOK := Aside0.mk hok
      have hkey := hok.key
      have hu89 := Try.underlying89
      obtain ⟨q, hq⟩ : ∃ q, a * b = q := ⟨_, rfl⟩
      rw [hq] at hsq hpb hpt
      have HQ := Aside0.mk hq
      clear hq hp hown hmem he hroom hok
      cases hh : Maps.has D (key a b) with
      | true =>
        have HH := Aside0.mk hh
        clear hh ih
        go_enter Try.func66, Try.ntmps66
        go_wp2_with (first
          | (go_at_call 31; refine (hsq _).mono ?_; rintro e w2 ⟨rfl, hb2⟩; have HB2 := Aside0.mk hb2; have hg2 := grown_of_below hb2 none; have ck := cell_grown ((blk_cell (blk_alloc HE.out.k (.cells #[.int .i64 a, .int .i64 b] 25)) 0).trans rfl) hg2 (by simp); have HO2 := Aside0.mk ((HOWN.out.alloc _).kept hg2 (by simp)); have hn2 := blk_grown' (blk_new W (.cells #[.int .i64 a, .int .i64 b] 25)) hg2 (by simp); have cb0 := (blk_cell hn2 0).trans rfl; have cb1 := (blk_cell hn2 1).trans rfl; clear hb2 hg2 hn2)
          | (at_lookup; refine wpList_lookup_own_ok_int _ rfl _ _ 89 rfl 25 3 .i64 law25 Try.underlying89 under3 (zero3 _) bm n D rfl HO2.out _ _ rfl hkey ?_; intro cc hat hwf; rw [HH.out]; have HAT := Aside0.mk hat; clear hat))
        go_ret
        have e2 := HMEM.out a b HOK.out HH.out
        rw [HAT.out] at e2
        injection e2 with e2
        injection e2 with _ e2
        have hg : W.grownBy w2 none := World.grownBy.trans (World.grownBy_alloc _ _ _) (grown_of_below HB2.out none)
        exact ⟨by rw [← e2]; rfl, ⟨n, D, HOWN.out.kept hg (by simp), HROOM.out, HMEM.out⟩, grown_none hg _, fun _ _ _ _ h => h.kept hg (by simp)⟩
      | false =>
        have HH := Aside0.mk hh
        have IH := Aside0.mk ih
        clear hh ih
        have hbm : bm < W.heap.size := HOWN.out.lt
        obtain ⟨kc, hkc⟩ := cuts_ev HOK.out
        have hcu := fun w => impl_Bar_cuts.calls kc a b _ w hkc
        clear hkc
        have hlen := cutsZ_length a b
        obtain ⟨cl, hcl⟩ : ∃ cl, cutsZ a b = cl := ⟨_, rfl⟩
        obtain ⟨m, hm⟩ : ∃ m, (cutsN a.toNat b.toNat).length = m := ⟨_, rfl⟩
        have hm22 : 0 < m ∧ m ≤ 22 := by
          have h1 := cutsN_length a.toNat b.toNat
          obtain ⟨⟨h2, h3⟩, h4, h5⟩ := HOK.out
          refine ⟨?_, by omega⟩
          rcases Nat.lt_or_ge 0 m with h | h
          · exact h
          · exfalso
            have ea : a = 1 := by omega
            have eb : b = 1 := by omega
            exact HP.out (by rw [ea, eb]; rfl)
        rw [hcl, hm] at hlen
        rw [hcl] at hcu
        have HCL := Aside0.mk hcl
        have HLEN := Aside0.mk hlen
        have HMM := Aside0.mk hm
        clear hcl hlen hm
        go_enter Try.func66, Try.ntmps66
        go_wp2_with (first
          | (go_at_call 31; refine (hsq _).mono ?_; rintro e w2 ⟨rfl, hb2⟩; have HB2 := Aside0.mk hb2; have hg2 := grown_of_below hb2 none; have ck := cell_grown ((blk_cell (blk_alloc HE.out.k (.cells #[.int .i64 a, .int .i64 b] 25)) 0).trans rfl) hg2 (by simp); have HO2 := Aside0.mk ((HOWN.out.alloc _).kept hg2 (by simp)); have hn2 := blk_grown' (blk_new W (.cells #[.int .i64 a, .int .i64 b] 25)) hg2 (by simp); have cb0 := (blk_cell hn2 0).trans rfl; have cb1 := (blk_cell hn2 1).trans rfl; clear hb2 hg2 hn2)
          | (at_lookup; refine wpList_lookup_own_ok_int _ rfl _ _ 89 rfl 25 3 .i64 law25 Try.underlying89 under3 (zero3 _) bm n D rfl HO2.out _ _ rfl hkey ?_; intro cc hat hwf; rw [HH.out]; clear hat)
          | (go_at_call 39; refine (hcu _).mono ?_; rintro e w3 ⟨v3, rfl, hr3, hb3⟩; obtain ⟨g3, c3, rfl, hg3, hg3l, hC3⟩ := R_where hr3 (by rw [HLEN.out]; exact hm22.1); rw [HLEN.out] at hC3 ⊢; have HC3 := Aside0.mk hC3; have HB3 := Aside0.mk hb3; have HG3 := Aside0.mk (And.intro hg3 hg3l); clear hr3 hb3 hC3 hg3 hg3l))
        have hgw : W.grownBy w3 none := World.grownBy.trans (World.grownBy_alloc _ _ _) (World.grownBy.trans (grown_of_below HB2.out none) (grown_of_below HB3.out none))
        have HST0 : Aside0 (StC o bm a b W w3) := ⟨⟨⟨n, D, HOWN.out.kept hgw (by simp), HROOM.out, HMEM.out⟩, ⟨n, D, HOWN.out.kept hgw (by simp), HH.out⟩, fun _ _ _ _ h => h.kept hgw (by simp), grown_none hgw _⟩⟩
        have HBX0 : Aside0 (w3.heap[W.heap.size]? = some (.cells #[.int .i64 a, .int .i64 b] 25 (0, 0))) := ⟨blk_grown' (blk_grown' (blk_new W (.cells #[.int .i64 a, .int .i64 b] 25)) (grown_of_below HB2.out none) (by simp)) (grown_of_below HB3.out none) (by simp)⟩
        have HWW : Aside0 (W.heap.size < w2.heap.size) := ⟨by have := HB2.out.size; simp at this; omega⟩
        clear hgw HB2 HO2 ck cb0 cb1 HB3 hcu
        go_loopg [8, 29] m (fun gg s8 s29 wr => ∃ i : Nat, i ≤ m ∧ m - i ≤ gg ∧ s29 = .int .i64 i ∧ s8 = .int .i64 ((cut (some_ o a.toNat b.toNat i) : Nat) : Int) ∧ Aside0 (StC o bm a b W wr) ∧ Aside0 (w3.grownBy wr (some bm)))
        case atStart => exact ⟨0, by omega, by omega, rfl, rfl, HST0, ⟨World.grownBy.refl _ _⟩⟩
        case round =>
          clear HST0
          obtain ⟨i, hi, hgg, rfl, rfl, HST, HG⟩ := hrel
          by_cases hlt : i < m
          · have hltz : (i : Int) < (m : Int) := by omega
            have hin : i < (cutsN a.toNat b.toNat).length := by rw [HMM.out]; exact hlt
            have hrd := cutsZ_at HOK.out i hin
            obtain ⟨ad, e, hx0, hx1⟩ := at_T65 HC3.out (i : Int) (by omega) hltz
            cases e
            rw [← HCL.out, hrd] at hx0 hx1
            have hmem : (cutsN a.toNat b.toNat)[i] ∈ cutsN a.toNat b.toNat := List.getElem_mem hin
            have hbq := broken_eq HOK.out hmem
            obtain ⟨⟨p1, p2, p3, p4⟩, p5, p6, p7, p8, p9, p10, p11⟩ := parts hmem (by have := HOK.out.1; omega) (by have := HOK.out.2; omega)
            have hterm : some_ o a.toNat b.toNat (i + 1) = some_ o a.toNat b.toNat i + term o a.toNat b.toNat (cutsN a.toNat b.toNat)[i] := by
              unfold some_
              rw [sum_take_succ _ i (by rw [List.length_map]; exact hin), List.getElem_map]
            unfold term at hterm
            obtain ⟨c, hc⟩ : ∃ c, (cutsN a.toNat b.toNat)[i] = c := ⟨_, rfl⟩
            rw [hc] at hx0 hx1 hmem hbq p1 p2 p3 p4 p5 p6 p7 p8 p9 p10 p11 hterm
            obtain ⟨⟨x1, y1⟩, he1⟩ : ∃ p, one a.toNat b.toNat c = p := ⟨_, rfl⟩
            obtain ⟨⟨x2, y2⟩, he2⟩ : ∃ p, two a.toNat b.toNat c = p := ⟨_, rfl⟩
            rw [he1] at hbq p1 p2 p5 p7 p8 p11 hterm
            rw [he2] at hbq p3 p4 p6 p9 p10 p11 hterm
            have hg3 : some g3 ≠ some bm := by have h1 := HG3.out.1; have h2 := HWW.out; simp; omega
            replace hx0 := cell_grown hx0 HG.out (by rw [add_block]; exact hg3)
            replace hx1 := cell_grown hx1 HG.out (by show some ((⟨g3, 0, none⟩ : Addr).add _).block ≠ _; rw [add_block]; exact hg3)
            simp only [Int.toNat_natCast, add_plain, Nat.zero_add] at hx0 hx1
            have hbx := blk_grown' HBX0.out HG.out (by simp; omega)
            have cb0 : wr.cell? ⟨W.heap.size, 0, none⟩ = some (.int .i64 a) := (blk_cell hbx 0).trans rfl
            have cb1 : wr.cell? ⟨W.heap.size, 1, none⟩ = some (.int .i64 b) := (blk_cell hbx 1).trans rfl
            have hnbl := blk_lt hbx
            have HBX := Aside0.mk hbx
            have hok1 : okB (x1 : Int) (y1 : Int) := by have h1 := HOK.out.1; have h2 := HOK.out.2; simp only at p1 p2 p7 p8; exact ⟨by omega, by omega⟩
            have hok2 : okB (x2 : Int) (y2 : Int) := by have h1 := HOK.out.1; have h2 := HOK.out.2; simp only at p3 p4 p9 p10; exact ⟨by omega, by omega⟩
            have HOK1 := Aside0.mk hok1
            have HOK2 := Aside0.mk hok2
            have HT := Aside0.mk hterm
            have HLT : Aside0 ((x1 : Int) + y1 < a + b ∧ (x2 : Int) + y2 < a + b ∧ x1 * y1 + x2 * y2 = a.toNat * b.toNat) := ⟨by have h1 := HOK.out.1; have h2 := HOK.out.2; simp only at p5 p6 p11; exact ⟨by omega, by omega, p11⟩⟩
            obtain ⟨d, t⟩ := c
            have hbr := fun w => impl_Bar_broken.calls a b d (t : Int) _ _ _ _ _ w hbq
            clear hbq hmem hc he1 he2 p1 p2 p3 p4 p5 p6 p7 p8 p9 p10 p11 hok1 hok2 hterm hbx hg3 hrd hin
            obtain ⟨nb, hnb⟩ : ∃ nb, W.heap.size = nb := ⟨_, rfl⟩
            have HNB := Aside0.mk hnb
            rw [hnb] at cb0 cb1 hnbl ⊢
            clear hnb
            go_upto_region 12 with (go_at_call 36; refine (hbr _).mono ?_; rintro e w4 ⟨rfl, hb4⟩; have HB4 := Aside0.mk hb4; clear hb4)
            have HG5 : Aside0 (wr.grownBy ((w4.alloc (.cells #[.int .i64 x1, .int .i64 y1] 25)).alloc (.cells #[.int .i64 x2, .int .i64 y2] 25)) none) := ⟨World.grownBy.trans (World.grownBy_alloc _ _ _) (World.grownBy.trans (grown_of_below HB4.out none) (World.grownBy.trans (World.grownBy_alloc _ _ _) (World.grownBy_alloc _ _ _)))⟩
            have HN11 : Aside0 (((w4.alloc (.cells #[.int .i64 x1, .int .i64 y1] 25)).alloc (.cells #[.int .i64 x2, .int .i64 y2] 25)).heap[w4.heap.size]? = some (.cells #[.int .i64 x1, .int .i64 y1] 25 (0, 0))) := ⟨blk_alloc (blk_new w4 _) _⟩
            have HN12 : Aside0 (((w4.alloc (.cells #[.int .i64 x1, .int .i64 y1] 25)).alloc (.cells #[.int .i64 x2, .int .i64 y2] 25)).heap[w4.heap.size + 1]? = some (.cells #[.int .i64 x2, .int .i64 y2] 25 (0, 0))) := ⟨by have := blk_new (w4.alloc (.cells #[.int .i64 x1, .int .i64 y1] 25)) (.cells #[.int .i64 x2, .int .i64 y2] 25); simpa using this⟩
            have HZ : Aside0 (nb < w4.heap.size) := ⟨by have := HB4.out.size; simp at this; omega⟩
            obtain ⟨n11, hn11⟩ : ∃ n11, w4.heap.size = n11 := ⟨_, rfl⟩
            rw [hn11] at HN11 HN12 HZ ⊢
            generalize (w4.alloc (.cells #[.int .i64 x1, .int .i64 y1] 25)).alloc (.cells #[.int .i64 x2, .int .i64 y2] 25) = w5 at HG5 HN11 HN12 ⊢
            clear HB4 hn11 hx0 hx1 cb0 cb1 hnbl hbr
            have HBX5 := Aside0.mk (blk_grown' HBX.out HG5.out (by simp))
            have HST5 := Aside0.mk (HST.out.new HG5.out)
            have HE5 := Aside0.mk (HE.out.kept hap HST5.out.g)
            rw [HNB.out] at HBX5
            clear HBX HST
            obtain ⟨zw, hzw⟩ : ∃ zw : Nat, cut (way o (a.toNat * b.toNat - 2) (x1 * y1 - 1)) = zw := ⟨_, rfl⟩
            have co : w5.cell? ⟨Bo, 0, none⟩ = some (.bool o) := (blk_cell HE5.out.o 0).trans rfl
            obtain ⟨oo, hoo⟩ : ∃ oo, oo = o := ⟨_, rfl⟩
            rw [← hoo] at co
            have HOO := Aside0.mk hoo
            clear hoo
            go_upto_if 43 with (fail)
            go_cut [14, 29] from 29 to 63 (fun s14 s29 wx => s14 = .int .i64 (zw : Int) ∧ s29 = .int .i64 (i : Int) ∧ Aside0 (w5.grownBy wx none))
            case first =>
              cases oo with
              | true =>
                rw [way_ev HOO.out.symm] at hzw
                have hpb1 := prod_in HOK1.out
                have hqn : a.toNat * b.toNat = q.toNat := by
                  have h1 := HOK.out.1; have h2 := HOK.out.2
                  have : ((a.toNat * b.toNat : Nat) : Int) = q := by rw [Int.natCast_mul, Int.toNat_of_nonneg (by omega), Int.toNat_of_nonneg (by omega)]; exact HQ.out
                  omega
                have hx2 : x1 * y1 + x2 * y2 = q.toNat := by rw [← hqn]; exact HLT.out.2.2
                have hx3 : 1 ≤ x2 * y2 := by have h1 := prod_in HOK2.out; rw [← Int.natCast_mul] at h1; omega
                have hsq1 := fun w => impl_Bar_squares.calls (x1 : Int) (y1 : Int) _ w (squares_eq HOK1.out)
                rw [← Int.natCast_mul] at hsq1 hpb1
                rw [hqn] at hzw
                obtain ⟨q1, hq1⟩ : ∃ q1, x1 * y1 = q1 := ⟨_, rfl⟩
                rw [hq1] at hsq1 hpb1 hzw hx2
                obtain ⟨k5, hk5⟩ := choose_ev (q.toNat - 2) (q1 - 1) (by omega) (by omega)
                rw [show ((q.toNat - 2 : Nat) : Int) = q - 2 by omega, show ((q1 - 1 : Nat) : Int) = (q1 : Int) - 1 by omega, hzw] at hk5
                have hch := fun w => impl_choose.calls k5 _ _ _ _ w hk5
                have hw1 : IntKind.i64.wrap (q - 2) = q - 2 := by rw [IntKind.wrap_i64]; omega
                have hw2 : IntKind.i64.wrap ((q1 : Int) - 1) = (q1 : Int) - 1 := by rw [IntKind.wrap_i64]; omega
                have hw3 : wrap64 (q - 2) = q - 2 := by unfold wrap64; omega
                have hw4 : wrap64 ((q1 : Int) - 1) = (q1 : Int) - 1 := by unfold wrap64; omega
                have s0 : w5.drew.cell? ⟨nb, 0, none⟩ = some (.int .i64 a) ∧ w5.drew.cell? ⟨nb, 1, none⟩ = some (.int .i64 b) ∧ w5.drew.cell? ⟨n11, 0, none⟩ = some (.int .i64 x1) ∧ w5.drew.cell? ⟨n11, 1, none⟩ = some (.int .i64 y1) ∧ w5.grownBy w5.drew none :=
                  ⟨(blk_cell (blk_drew HBX5.out) 0).trans rfl, (blk_cell (blk_drew HBX5.out) 1).trans rfl, (blk_cell (blk_drew HN11.out) 0).trans rfl, (blk_cell (blk_drew HN11.out) 1).trans rfl, grown_drew w5⟩
                clear hqn hx2 hx3 hq1 hk5 hzw
                go_wp2
                go_region_held3 (fun w' => w'.cell? ⟨nb, 0, none⟩ = some (.int .i64 a) ∧ w'.cell? ⟨nb, 1, none⟩ = some (.int .i64 b) ∧ w'.cell? ⟨n11, 0, none⟩ = some (.int .i64 x1) ∧ w'.cell? ⟨n11, 1, none⟩ = some (.int .i64 y1) ∧ w5.grownBy w' none) (first | assumption)
                  (first
                    | (go_at_call 31; (first | (with_reducible refine (hsq _).mono ?_) | (with_reducible refine (hsq1 _).mono ?_)); rintro e w6 ⟨rfl, hb6⟩; have s6 := held_below (by assumption) (grown_of_below hb6 none); clear hb6)
                    | (go_at_call 67; (with_reducible refine (hch _).mono ?_); rintro e w6 ⟨rfl, hb6⟩; have s6 := held_below (by assumption) (grown_of_below hb6 none); clear hb6))
                all_goals (try go_wp2_with fail)
                all_goals go_meet
                all_goals exact ⟨rfl, rfl, ⟨held_g (by assumption)⟩⟩
              | false =>
                have HO1 : Aside0 (zw = 1) := ⟨by rw [← hzw, ← HOO.out]; rfl⟩
                clear hzw
                go_wp2
                go_meet
                case rel => exact ⟨by rw [HO1.out]; rfl, rfl, ⟨World.grownBy.refl _ _⟩⟩
            case rest =>
              clear co
              obtain ⟨rfl, rfl, HG6⟩ := hcut
              have HN11c := Aside0.mk (blk_grown' HN11.out HG6.out (by simp))
              have HN12c := Aside0.mk (blk_grown' HN12.out HG6.out (by simp))
              have HST6 := Aside0.mk (HST5.out.new HG6.out)
              have HE6 := Aside0.mk (HE.out.kept hap HST6.out.g)
              have hbf : Bf ≠ bm := hap.f
              have hb1 : n11 ≠ bm := by have := HZ.out; have := HNB.out; omega
              have hb2 : n11 + 1 ≠ bm := by have := HZ.out; have := HNB.out; omega
              obtain ⟨z1, hz1⟩ : ∃ z1, cnt o x1 y1 = z1 := ⟨_, rfl⟩
              obtain ⟨z2, hz2⟩ : ∃ z2, cnt o x2 y2 = z2 := ⟨_, rfl⟩
              have hi1 := cnt_in o x1 y1 HOK1.out.1.1 HOK1.out.2.1
              have hi2 := cnt_in o x2 y2 HOK2.out.1.1 HOK2.out.2.1
              rw [hz1] at hi1
              rw [hz2] at hi2
              have hc1 : ∀ w', Hd o bm a b W wc Bf n11 (n11 + 1) (cntF Bk Bo Bf) (.int .i64 x1) (.int .i64 y1) (.int .i64 x2) (.int .i64 y2) w' → Calls Try.prog 66 #[.agg #[.int .i64 x1, .int .i64 y1], .pointer (some ⟨Bk, 0, none⟩), .pointer (some ⟨Bo, 0, none⟩), .pointer (some ⟨Bf, 0, none⟩)] w' fun e w'' => e = .returned (.int .i64 z1) ∧ Hd o bm a b W wc Bf n11 (n11 + 1) (cntF Bk Bo Bf) (.int .i64 x1) (.int .i64 y1) (.int .i64 x2) (.int .i64 y2) w'' := fun w' h =>
                (IH.out x1 y1 w' HOK1.out (by have := HLT.out.1; omega) h.2.2.2.2.2.1.m (HE.out.kept hap h.2.2.2.2.2.1.g)).mono fun e w'' ⟨h1, h2⟩ => ⟨by rw [h1, hz1], h.call hbf hb1 hb2 h2 HOK.out HLT.out.1⟩
              have hc2 : ∀ w', Hd o bm a b W wc Bf n11 (n11 + 1) (cntF Bk Bo Bf) (.int .i64 x1) (.int .i64 y1) (.int .i64 x2) (.int .i64 y2) w' → Calls Try.prog 66 #[.agg #[.int .i64 x2, .int .i64 y2], .pointer (some ⟨Bk, 0, none⟩), .pointer (some ⟨Bo, 0, none⟩), .pointer (some ⟨Bf, 0, none⟩)] w' fun e w'' => e = .returned (.int .i64 z2) ∧ Hd o bm a b W wc Bf n11 (n11 + 1) (cntF Bk Bo Bf) (.int .i64 x1) (.int .i64 y1) (.int .i64 x2) (.int .i64 y2) w'' := fun w' h =>
                (IH.out x2 y2 w' HOK2.out (by have := HLT.out.2.1; omega) h.2.2.2.2.2.1.m (HE.out.kept hap h.2.2.2.2.2.1.g)).mono fun e w'' ⟨h1, h2⟩ => ⟨by rw [h1, hz2], h.call hbf hb1 hb2 h2 HOK.out HLT.out.2.1⟩
              have hzw1 : 1 ≤ zw ∧ zw ≤ cap := by
                rw [← hzw]
                refine ⟨cut_pos (way_pos o ?_), cut_le _⟩
                have h1 := prod_in HOK2.out
                rw [← Int.natCast_mul] at h1
                have h2 := HLT.out.2.2
                omega
              have hcz1 : z1.toNat = cut (N o x1 y1) := by rw [← hz1]; unfold cnt; simp
              have hcz2 : z2.toNat = cut (N o x2 y2) := by rw [← hz2]; unfold cnt; simp
              obtain ⟨kp, hkp⟩ := product_ev z1.toNat z2.toNat zw (by omega) (by omega) hzw1.1 (by rw [hcz1]; exact cut_le _) (by rw [hcz2]; exact cut_le _) hzw1.2
              have hstep : cut (cut (some_ o a.toNat b.toNat i) + cut (z1.toNat * z2.toNat * zw)) = cut (some_ o a.toNat b.toNat (i + 1)) := by
                rw [HT.out, hcz1, hcz2, ← hzw, cut_mul3 (N_pos o _ _ _ (Nat.le_refl _) (by have := HOK1.out.1; omega) (by have := HOK1.out.2; omega)) (N_pos o _ _ _ (Nat.le_refl _) (by have := HOK2.out.1; omega) (by have := HOK2.out.2; omega)) (way_pos o (by
                  have h1 := prod_in HOK2.out
                  rw [← Int.natCast_mul] at h1
                  have h2 := HLT.out.2.2
                  omega)), cut_add2]
              obtain ⟨ac, hac⟩ : ∃ ac : Nat, cut (some_ o a.toNat b.toNat i) = ac := ⟨_, rfl⟩
              obtain ⟨pr, hpr⟩ : ∃ pr : Nat, cut (z1.toNat * z2.toNat * zw) = pr := ⟨_, rfl⟩
              have hacl : ac ≤ 1000000000000001 := by rw [← hac]; exact cut_le _
              have hprl : pr ≤ 1000000000000001 := by rw [← hpr]; exact cut_le _
              rw [hac, hpr] at hstep
              rw [hpr, Int.toNat_of_nonneg (by omega), Int.toNat_of_nonneg (by omega)] at hkp
              rw [hac]
              have HSTEP := Aside0.mk hstep
              have hprod : ∀ (w' : World) (g : Nat), w'.heap[g]? = some (.cells #[.int .i64 z1, .int .i64 z2, .int .i64 zw] 3 (0, 0)) → Calls Try.prog 68 #[.int .i64 1000000000000000, .slice (some ⟨g, 0, none⟩) 3 3] w' fun e w'' => e = .returned (.int .i64 pr) ∧ Drawn0 w' w'' := fun w' g hg =>
                impl_product.calls kp _ _ 3 [z1, z2, (zw : Int)] _ w' (C_block hg _ (by simp) (fun j hj => by
                  have : j < 3 := hj
                  rcases j with _ | _ | _ | j
                  · rfl
                  · rfl
                  · rfl
                  · omega)) (by simp) hkp
              have hws : IntKind.i64.wrap ((ac : Int) + (pr : Int)) = (ac : Int) + (pr : Int) := by rw [IntKind.wrap_i64]; omega
              have s0 : wc.drew.cell? ⟨Bf, 0, none⟩ = some (cntF Bk Bo Bf) ∧ wc.drew.cell? ⟨n11, 0, none⟩ = some (.int .i64 x1) ∧ wc.drew.cell? ⟨n11, 1, none⟩ = some (.int .i64 y1) ∧ wc.drew.cell? ⟨n11 + 1, 0, none⟩ = some (.int .i64 x2) ∧ wc.drew.cell? ⟨n11 + 1, 1, none⟩ = some (.int .i64 y2) ∧ StC o bm a b W wc.drew ∧ wc.grownBy wc.drew (some bm) :=
                ⟨(blk_cell (blk_drew HE6.out.f) 0).trans rfl, (blk_cell (blk_drew HN11c.out) 0).trans rfl, (blk_cell (blk_drew HN11c.out) 1).trans rfl, (blk_cell (blk_drew HN12c.out) 0).trans rfl, (blk_cell (blk_drew HN12c.out) 1).trans rfl, HST6.out.new (grown_drew wc), grown_none (grown_drew wc) _⟩
              have eg : ∀ args w, (callFunc 66 args).run Try.prog w = .ok (.enter 66 args) w := enters_of Try.func66 (by kernel_rfl) rfl
              clear hstep hac hpr hkp hcz1 hcz2 hzw1 hb1 hb2 hbf hzw hz1 hz2 hi1 hi2
              go_wp2
              go_region_held3 (fun w' => w'.cell? ⟨Bf, 0, none⟩ = some (cntF Bk Bo Bf) ∧ w'.cell? ⟨n11, 0, none⟩ = some (.int .i64 x1) ∧ w'.cell? ⟨n11, 1, none⟩ = some (.int .i64 y1) ∧ w'.cell? ⟨n11 + 1, 0, none⟩ = some (.int .i64 x2) ∧ w'.cell? ⟨n11 + 1, 1, none⟩ = some (.int .i64 y2) ∧ StC o bm a b W w' ∧ wc.grownBy w' (some bm)) (first | assumption | exact Hd.new (by assumption) (World.grownBy_alloc _ _ _) | exact Hd.new (by assumption) (grown_drewN _ _))
                (first
                  | (go_at_fn 66; (first | (with_reducible refine (hc1 _ (by assumption)).mono ?_) | (with_reducible refine (hc2 _ (by assumption)).mono ?_)); rintro e w6 ⟨rfl, s6⟩)
                  | (go_at_call 68; (with_reducible refine (hprod _ _ (blk_new _ _)).mono ?_); rintro e w6 ⟨rfl, ⟨nd, rfl⟩⟩))
              have hnv : (if (1000000000000001 : Int) < (ac : Int) + (pr : Int) then (1000000000000001 : Int) else (ac : Int) + (pr : Int)) = ((cut (some_ o a.toNat b.toNat (i + 1)) : Nat) : Int) := by
                rw [← HSTEP.out]
                unfold cut cap
                split <;> omega
              rw [hnv]
              have hfin : Hd o bm a b W wc Bf n11 (n11 + 1) (cntF Bk Bo Bf) (.int .i64 x1) (.int .i64 y1) (.int .i64 x2) (.int .i64 y2) ((w6.alloc (Obj.cells #[Value.int IntKind.i64 z1, Value.int IntKind.i64 z2, Value.int IntKind.i64 ↑zw] 3)).drewN nd) := by assumption
              have HF1 := Aside0.mk hfin.2.2.2.2.2.1
              have HF2 := Aside0.mk hfin.2.2.2.2.2.2
              clear hfin hnv s0 s6 hc1 hc2 hprod hws eg
              generalize ((w6.alloc (Obj.cells #[Value.int IntKind.i64 z1, Value.int IntKind.i64 z2, Value.int IntKind.i64 ↑zw] 3)).drewN nd) = w9 at HF1 HF2 ⊢
              have hnb := HNB.out
              subst hnb
              go_wp2
              go_roundg (m - (i + 1))
              case measure => omega
              case rel => exact ⟨i + 1, by omega, by omega, by go_num, rfl, HF1, ⟨World.grownBy.trans HG.out (World.grownBy.trans (grown_none HG5.out _) (World.grownBy.trans (grown_none HG6.out _) HF2.out))⟩⟩
          · obtain rfl : i = m := by omega
            have hltz : ¬ (i : Int) < (i : Int) := by omega
            obtain ⟨n2, D2, hown2, hroom2, hmem2⟩ := HST.out.m
            have HOW2 := Aside0.mk hown2
            have HR2 := Aside0.mk hroom2
            have HM2 := Aside0.mk hmem2
            have hgr := HST.out.g
            have hbx := blk_grown' HBX0.out HG.out (by simp; omega)
            have ck : wr.cell? ⟨Bk, 0, none⟩ = some (.map (some bm)) := (blk_cell (HE.out.kept hap hgr).k 0).trans rfl
            have cb0 : wr.cell? ⟨W.heap.size, 0, none⟩ = some (.int .i64 a) := (blk_cell hbx 0).trans rfl
            have cb1 : wr.cell? ⟨W.heap.size, 1, none⟩ = some (.int .i64 b) := (blk_cell hbx 1).trans rfl
            have hn2 : n2 < maxLen := by unfold maxLen; omega
            have hN : N o a.toNat b.toNat = some_ o a.toNat b.toNat i := by
              have h1 := HOK.out.1
              have h2 := HOK.out.2
              rw [N_rec o (by omega) (by omega) (by
                intro he
                refine HP.out ?_
                have h3 : ((a.toNat * b.toNat : Nat) : Int) = 1 := by rw [he]; rfl
                rw [Int.natCast_mul, Int.toNat_of_nonneg (by omega), Int.toNat_of_nonneg (by omega)] at h3
                exact h3)]
              unfold some_
              rw [List.take_of_length_le (by rw [List.length_map, HMM.out]; exact Nat.le_refl _)]
            have hval : ((cut (some_ o a.toNat b.toNat i) : Nat) : Int) = cnt o a b := by unfold cnt; rw [hN]
            rw [hval]
            obtain ⟨z, hz⟩ : ∃ z, cnt o a b = z := ⟨_, rfl⟩
            have hzl : GBar.In64 z := by
              have := cnt_in o a b HOK.out.1.1 HOK.out.2.1
              unfold GBar.In64
              omega
            rw [hz]
            have HZV := Aside0.mk hz
            have hwz : (Lit.int .i64 z).wf = true := WalkArith.wf_i64 hzl
            have hpe : RC (.int .i64 z) = some (.lit (.int .i64 z), []) := plainElem_int under3 hwz
            clear hown2 hroom2 hmem2 hgr hbx hN hval hz
            go_wp2_with (at_mapUpdate; refine wpList_mapUpdate_own _ rfl _ _ _ 89 rfl 25 3 law25 Try.underlying89 RC bm n2 D2 rfl HOW2.out hn2 _ _ _ rfl rfl hkey (.lit (.int .i64 z)) [] hpe ?_; intro w4 hown4 hgrow4; have HO4 := Aside0.mk hown4; have HG4 := Aside0.mk hgrow4; clear hown4 hgrow4)
            go_ret
            have hkl : WideAt.IsKeyLit (key a b) := law25.key hkey
            have habs : Maps.has D2 (key a b) = false := by
              obtain ⟨n3, D3, h3, h4⟩ := HST.out.ab
              rw [owns_one HOW2.out h3]
              exact h4
            refine ⟨by rw [HZV.out]; rfl, ⟨n2 + 1, _, HO4.out, ?_, fun a' b' hok' hhas => ?_⟩, World.grownBy.trans HST.out.g HG4.out, fun a' b' hok' hb ha => ?_⟩
            · have := room_put (d := .lit (.int .i64 z)) HOK.out HOW2.out.isMap habs hkl
              have := HR2.out
              omega
            · by_cases he : key a' b' = key a b
              · obtain ⟨e1, e2⟩ := hok'.inj HOK.out he
                rw [he, atKey_put_same HOW2.out.isMap hkl, e1, e2, HZV.out]
              · rw [has_put_other he] at hhas
                rw [atKey_put_other he]
                exact HM2.out a' b' hok' hhas
            · obtain ⟨n3, D3, h3, h4⟩ := HST.out.far a' b' hok' hb ha
              refine ⟨n2 + 1, _, HO4.out, ?_⟩
              rw [has_put_other (fun he => by obtain ⟨e1, e2⟩ := hok'.inj HOK.out he; omega), owns_one HOW2.out h3]
              exact h4
end Go.Proofs.Ytkoplphcdkmilaa.All
end
section
namespace Go.Proofs.Ytkoplphcdkmilaa.All
open Go.RowKit Go.Proofs.YtkoplphcdkmilaaW.PrintWords Go.Proofs.YtkoplphcdkmilaaW.PrintLast Go.Proofs.YtkoplphcdkmilaaW.PrintMore Go.Shelf Go.Maps Go.Joins Go.Proofs.Ytkoplphcdkmilaa.PEv Go.Proofs.Ytkoplphcdkmilaa.PCount Go.Proofs.Ytkoplphcdkmilaa.GBar Go.Proofs.Ytkoplphcdkmilaa.PImpl
set_option linter.unusedVariables false
set_option linter.unusedSimpArgs false

set_option maxHeartbeats 4000000 in
set_option maxRecDepth 100000 in
theorem breakings_any (o : Bool) (W : World) : Calls Try.prog 53 #[.bool o] W fun e w' => ∃ Bk Bo Bf bm, e = .returned (cntF Bk Bo Bf) ∧ Aside0 (ApartC Bk Bo Bf bm) ∧ Aside0 (MemoC o w' bm) ∧ Aside0 (EnvC o Bk Bo Bf bm w') ∧ Aside0 (W.heap.size ≤ bm) ∧ Aside0 (Below W.heap.size W w') := by
  have hmm := @run_makeMap Try.prog
  have hu89 := Try.underlying89
  have hu81 := Try.underlying81
  go_enter Try.func53, Try.ntmps53
  go_wp2
  refine bodyPost_ret (v := cntF (W.heap.size + 1 + 1) W.heap.size (W.heap.size + 1 + 1 + 1)) (by simp [results, Try.results53, go_sem]) rfl ?_
  refine ⟨_, _, _, W.heap.size + 1, rfl, ⟨⟨by omega, by omega, by omega⟩⟩, ⟨0, .map [], ?_, ?_, fun a b _ h => ?_⟩, ⟨⟨?_, ?_, ?_⟩⟩, ⟨by omega⟩, ⟨?_⟩⟩
  · have h := World.ownsMap_made (W.alloc (.cells #[.bool o] 4)) Try.prog 25 RC
    have e : (W.alloc (.cells #[.bool o] 4)).heap.size = W.heap.size + 1 := by simp
    rw [e] at h
    exact (h.alloc _).alloc _
  · have := room_le (.map [])
    omega
  · simp [Maps.has] at h
  · have h := blk_alloc (blk_new ((W.alloc (.cells #[.bool o] 4)).alloc (.map #[] 0)) (.cells #[.map (some (W.heap.size + 1))] 89)) (.cells #[cntF (W.heap.size + 1 + 1) W.heap.size (W.heap.size + 1 + 1 + 1)] 81)
    simpa using h
  · exact blk_alloc (blk_alloc (blk_alloc (blk_new W (.cells #[.bool o] 4)) _) _) _
  · have h := blk_new (((W.alloc (.cells #[.bool o] 4)).alloc (.map #[] 0)).alloc (.cells #[.map (some (W.heap.size + 1))] 89)) (.cells #[cntF (W.heap.size + 1 + 1) W.heap.size (W.heap.size + 1 + 1 + 1)] 81)
    simpa using h
  · exact ((((Below.refl _ _).alloc (Nat.le_refl _) _).alloc (by simp) _).alloc (by simp; omega) _).alloc (by simp; omega) _

theorem below_far {B : Nat} {W w w' : World} {N : Nat} (h : Below B W w) (hg : w.grownBy w' (some N)) (hB : B ≤ N) (hs : B ≤ W.heap.size) : Below B W w' :=
  ⟨hg.os.trans h.os, hg.tape.trans h.tape, hg.output.trans h.output, Nat.le_trans h.size hg.size, fun i hi => (hg.block i (by have := h.size; omega) (fun e => by injection e with e; omega)).trans (h.block i hi)⟩

theorem two_below {w w' w'' : World} {n : Nat} {u v : Value} (h : w'.cell? ⟨n, 0, none⟩ = some u ∧ w'.cell? ⟨n, 1, none⟩ = some v ∧ Below w.heap.size w w') (hb : Below w'.heap.size w' w'') :
    w''.cell? ⟨n, 0, none⟩ = some u ∧ w''.cell? ⟨n, 1, none⟩ = some v ∧ Below w.heap.size w w'' :=
  ⟨cell_grown h.1 (grown_of_below hb none) (by simp), cell_grown h.2.1 (grown_of_below hb none) (by simp), below_then h.2.2 h.2.2.size hb⟩
theorem two_far {w w' w'' : World} {n N : Nat} {u v : Value} (h : w'.cell? ⟨n, 0, none⟩ = some u ∧ w'.cell? ⟨n, 1, none⟩ = some v ∧ Below w.heap.size w w') (hg : w'.grownBy w'' (some N)) (hn : n < N) (hN : w.heap.size ≤ N) :
    w''.cell? ⟨n, 0, none⟩ = some u ∧ w''.cell? ⟨n, 1, none⟩ = some v ∧ Below w.heap.size w w'' :=
  ⟨cell_grown h.1 hg (by simp; omega), cell_grown h.2.1 hg (by simp; omega), below_far h.2.2 hg hN (Nat.le_refl _)⟩
theorem two_last {w w' : World} {n : Nat} {u v : Value} (h : w'.cell? ⟨n, 0, none⟩ = some u ∧ w'.cell? ⟨n, 1, none⟩ = some v ∧ Below w.heap.size w w') : Below w.heap.size w w' := h.2.2
def impl_counted.f (a0_0 : Int) (a0_1 : Int) (a1 : Bool) : Option (Int × Bool) := some (if okB a0_0 a0_1 ∧ cnt a1 a0_0 a0_1 ≤ 1000000000000000 then (cnt a1 a0_0 a0_1, true) else (0, false))
set_option maxHeartbeats 4000000 in
set_option maxRecDepth 100000 in
theorem impl_counted.calls (a0_0 : Int) (a0_1 : Int) (a1 : Bool) (r1 : Int) (r2 : Bool) (w : World) (h : impl_counted.f a0_0 a0_1 a1 = some (r1, r2)) :
    Calls Try.prog 27 #[.agg #[.int .i64 a0_0, .int .i64 a0_1], .bool a1] w fun e w' => e = .returned (.tuple #[.int .i64 r1, .bool r2]) ∧ Below w.heap.size w w' := by
  have hu25 := Try.underlying25
  have hib := fun w => impl_isBar.calls a0_0 a0_1 _ w (isBar_eq a0_0 a0_1)
  unfold impl_counted.f at h
  replace h := Option.some.inj h
  by_cases hok : okB a0_0 a0_1
  · rw [decide_eq_true hok] at hib
    have HOK := Aside0.mk hok
    obtain ⟨z, hz⟩ : ∃ z, cnt a1 a0_0 a0_1 = z := ⟨_, rfl⟩
    rw [hz] at h
    have HZ := Aside0.mk hz
    have HH := Aside0.mk h
    clear hok hz h
    have hbr := breakings_any a1
    have hbn : ∀ (W : World), W.heap.size < (W.alloc (.cells #[.int .i64 a0_0, .int .i64 a0_1] 25)).heap.size := fun W => by simp
    have HBN := Aside0.mk hbn
    have eg : ∀ args w, (callFunc 66 args).run Try.prog w = .ok (.enter 66 args) w := enters_of Try.func66 (by kernel_rfl) rfl
    clear hbn
    go_enter Try.func27, Try.ntmps27
    go_upto_region 3 with (go_at_call 30; refine (hib _).mono ?_; rintro e w2 ⟨rfl, hb2⟩; have HB2 := Aside0.mk hb2; clear hb2)
    have hsz : w.heap.size < w2.drew.heap.size := by
      have h1 := HB2.out.size
      have h2 := HBN.out w
      show w.heap.size < w2.heap.size
      omega
    have hbx := blk_below (blk_new w (.cells #[.int .i64 a0_0, .int .i64 a0_1] 25)) HB2.out
    have s0 : w2.drew.cell? ⟨w.heap.size, 0, none⟩ = some (.int .i64 a0_0) ∧ w2.drew.cell? ⟨w.heap.size, 1, none⟩ = some (.int .i64 a0_1) ∧ Below w.heap.size w w2.drew :=
      ⟨(blk_cell (blk_drew hbx) 0).trans rfl, (blk_cell (blk_drew hbx) 1).trans rfl, below_drew (below_then ((Below.refl _ _).alloc (Nat.le_refl _) _) (by simp) HB2.out)⟩
    clear hbx
    have HSZ := Aside0.mk hsz
    clear hsz
    go_region_held3 (fun w' => w'.cell? ⟨w.heap.size, 0, none⟩ = some (.int .i64 a0_0) ∧ w'.cell? ⟨w.heap.size, 1, none⟩ = some (.int .i64 a0_1) ∧ Below w.heap.size w w') (first | assumption)
      (first
        | (go_at_call 53; (with_reducible refine (hbr _).mono ?_); rintro e w3 ⟨Bk, Bo, Bf, bm, rfl, HA, HM, HE, HL, HB⟩; have s3 := two_below (by assumption) HB.out)
        | (go_at_fn 66; refine (count_any Bk Bo Bf HA.out _ a0_0 a0_1 _ HOK.out (Nat.le_refl _) HM.out HE.out).mono ?_; rintro e w4 ⟨rfl, hgot⟩; have s4 := two_far (by assumption) hgot.g (by have h1 := HL.out; have h2 := HSZ.out; omega) (by have h1 := HL.out; have h2 := HSZ.out; omega); clear hgot))
    have hend := two_last (w := w) (by assumption)
    have HEND := Aside0.mk hend
    clear hend s0 s3 s4
    rw [HZ.out]
    by_cases hc : z ≤ 1000000000000000
    · have hcz : ¬ (1000000000000000 : Int) < z := by omega
      have hr := HH.out
      rw [if_pos ⟨HOK.out, hc⟩] at hr
      obtain ⟨rfl, rfl⟩ := Prod.mk.inj hr
      clear hr
      go_wp2
      go_ret2
      exact ⟨rfl, HEND.out⟩
    · have hcz : (1000000000000000 : Int) < z := by omega
      have hr := HH.out
      rw [if_neg (fun h => hc h.2)] at hr
      obtain ⟨rfl, rfl⟩ := Prod.mk.inj hr
      clear hr hc
      go_wp2
      go_ret2
      exact ⟨rfl, HEND.out⟩
  · rw [decide_eq_false hok] at hib
    rw [if_neg (fun h => hok h.1)] at h
    obtain ⟨rfl, rfl⟩ := Prod.mk.inj h
    clear hok h
    go_enter Try.func27, Try.ntmps27
    go_wp2_with (go_at_call 30; refine (hib _).mono ?_; rintro e w2 ⟨rfl, hb2⟩; have HB2 := Aside0.mk hb2; clear hb2)
    go_ret2
    exact ⟨rfl, below_then ((Below.refl _ _).alloc (Nat.le_refl _) _) (by simp) HB2.out⟩
end Go.Proofs.Ytkoplphcdkmilaa.All
end
