/- impl.GoodChomps and impl.LostChomps: their contracts, in the form of the print. Conditions: lists of at most four million numbers. -/
import Derived.Test.YtnmibkkchgagbaaDoorGFate
import Derived.Test.YtnmibkkchgagbaaDoorGLostS
namespace Go.Proofs.YtnmibkkchgagbaaDoor.All
open Go.RowKit Go.Proofs.YtnmibkkchgagbaaDoorW.PrintWords Go.Proofs.YtnmibkkchgagbaaDoorW.PrintLast Go.Proofs.YtnmibkkchgagbaaDoorW.PrintMore Go.Shelf Go.Joins Go.Proofs.YtnmibkkchgagbaaDoor.PAll Go.Proofs.YtnmibkkchgagbaaDoor.Memo Go.Proofs.YtnmibkkchgagbaaDoor.PFate Go.Proofs.YtnmibkkchgagbaaDoor.PChomp Go.Proofs.YtnmibkkchgagbaaDoor.PQuick Go.Proofs.YtnmibkkchgagbaaDoor.PHeap2
set_option linter.unusedVariables false
set_option linter.unusedSimpArgs false

section
variable {w w2 : World} {a b c d : Addr} {x y z u : Value}
theorem four_below (h : w.cell? a = some x ∧ w.cell? b = some y ∧ w.cell? c = some z ∧ w.cell? d = some u) (hb : Below w.heap.size w w2) : w2.cell? a = some x ∧ w2.cell? b = some y ∧ w2.cell? c = some z ∧ w2.cell? d = some u :=
  ⟨(hb.cell (World.block_lt_of_cell? _ _ h.1)).trans h.1, (hb.cell (World.block_lt_of_cell? _ _ h.2.1)).trans h.2.1, (hb.cell (World.block_lt_of_cell? _ _ h.2.2.1)).trans h.2.2.1, (hb.cell (World.block_lt_of_cell? _ _ h.2.2.2)).trans h.2.2.2⟩
theorem four_map {bm : Nat} (h : w.cell? a = some x ∧ w.cell? b = some y ∧ w.cell? c = some z ∧ w.cell? d = some u) (hm : Memo w bm) (hg : w.grownBy w2 (some bm)) : w2.cell? a = some x ∧ w2.cell? b = some y ∧ w2.cell? c = some z ∧ w2.cell? d = some u := by
  obtain ⟨es, cl, hmap⟩ := hm.map
  exact ⟨cell_grown hg h.1 (fun e => cell_map hmap h.1 (by injection e)), cell_grown hg h.2.1 (fun e => cell_map hmap h.2.1 (by injection e)), cell_grown hg h.2.2.1 (fun e => cell_map hmap h.2.2.1 (by injection e)), cell_grown hg h.2.2.2 (fun e => cell_map hmap h.2.2.2 (by injection e))⟩
end
set_option maxHeartbeats 8000000 in
set_option maxRecDepth 100000 in
theorem good1 {bm Bf Br : Nat} {l m : List Int} {Al Am : Option Addr} {cl cm : Nat} {W : World} (hf : W.heap[Bf]? = some (.cells #[.map (some bm)] 52 (0, 0))) (hr : W.heap[Br]? = some (.cells #[.slice Al l.length cl] 22 (0, 0))) (hok : ok6 l) (hcl : l.length ≤ cl) (hcr : KI.C W Al l.length l) (hm : m ∈ mv l) (hcm : m.length ≤ cm) (hmr : KI.C W Am m.length m) (hme : Memo W bm) :
    Calls Tryd.prog 69 #[.slice Am m.length cm, .pointer (some ⟨Bf, 0, none⟩), .pointer (some ⟨Br, 0, none⟩)] W fun e w' => e = .returned (.bool (won (nx l m))) ∧ Memo w' bm ∧ W.grownBy w' (some bm) := by
  have hnx := nx_ok hok hm
  have hbt := bitten_eq hok hm
  have hm2 : m.length = 2 := by obtain ⟨a, y, e, _⟩ := mv_mem hm; rw [e]; rfl
  rw [hm2] at hmr hcm ⊢
  obtain ⟨ad, e, hy0⟩ := Kd.at_int hmr 0 (by omega) (by omega)
  subst e
  obtain ⟨ad3, e3, hy1⟩ := Kd.at_int hmr 1 (by omega) (by omega)
  cases e3
  replace hy0 : W.cell? ad = some (.int .i64 (rd m 0)) := hy0
  replace hy1 : W.cell? ⟨ad.block, ad.off + 1, none⟩ = some (.int .i64 (rd m 1)) := hy1
  have cf : W.cell? ⟨Bf, 0, none⟩ = some (.map (some bm)) := (blk_cell hf 0).trans rfl
  have cr : W.cell? ⟨Br, 0, none⟩ = some (.slice Al l.length cl) := (blk_cell hr 0).trans rfl
  have hw : won (nx l m) = decide (0 < (fate (nx l m)).1) := rfl
  rw [hw]
  obtain ⟨x, hx⟩ : ∃ x, rd m 0 = x := ⟨_, rfl⟩
  obtain ⟨y, hy⟩ : ∃ y, rd m 1 = y := ⟨_, rfl⟩
  rw [hx] at hy0 hbt
  rw [hy] at hy1 hbt
  obtain ⟨q, hq⟩ : ∃ q, nx l m = q := ⟨_, rfl⟩
  rw [hq] at hbt hnx ⊢
  have hof := fun (W' : World) (A' : Option Addr) (c' : Nat) (h1 : q.length ≤ c') (h2 : KI.C W' A' q.length q) (h3 : Memo W' bm) => of_fate hnx.1 h1 h2 h3
  obtain ⟨fq, hfq⟩ : ∃ f, fate q = f := ⟨_, rfl⟩
  rw [hfq] at hof ⊢
  have HOF := Aside0.mk hof
  have HBT := Aside0.mk hbt
  have HME := Aside0.mk hme
  have HCR := Aside0.mk hcr
  have hf0 := fd0
  have HD0 : Aside0 (Below W.heap.size W W.drew) := ⟨below_drew (Below.refl _ _)⟩
  have s0 := four_below (w2 := W.drew) (And.intro cf (And.intro cr (And.intro hy0 hy1))) HD0.out
  clear hf hr hok hm hmr hme hnx hbt hm2 cf cr hy0 hy1 hx hy hq hfq hof hw hcr
  go_enter Tryd.func69, Tryd.ntmps69
  go_wp2
  go_region_held3 (fun w' => w'.cell? ⟨Bf, 0, none⟩ = some (.map (some bm)) ∧ w'.cell? ⟨Br, 0, none⟩ = some (.slice Al l.length cl) ∧ w'.cell? ad = some (.int .i64 x) ∧ w'.cell? ⟨ad.block, ad.off + 1, none⟩ = some (.int .i64 y)) (first | assumption)
    (first
      | (go_at_call 66; refine (impl_bitten.calls Al cl l x y q _ (Kd.C_drew HCR.out) hcl HBT.out).mono ?_; rintro e w2 ⟨v2, rfl, hr2, hb2⟩; obtain ⟨A2, c2, rfl, hc2, hC2⟩ := Kd.R_reads hr2; have HC2 := Aside0.mk hC2; have HB2 : Aside0 (Below W.heap.size W w2) := ⟨HD0.out.trans hb2⟩; have HM2 := Aside0.mk (HME.out.kept (grown_of_below HB2.out none) (by simp)); have s2 := four_below s0 hb2; clear hr2 hb2 hC2)
      | (go_at_call 45; refine (HOF.out _ A2 c2 hc2 HC2.out HM2.out).mono ?_; rintro e w3 ⟨rfl, hm3, hg3⟩; have HM3 := Aside0.mk hm3; have HG3 := Aside0.mk hg3; have s3 := four_map s2 HM2.out hg3; clear hm3 hg3))
  all_goals (try go_wp2_with fail)
  all_goals go_ret
  all_goals exact ⟨rfl, HM3.out, World.grownBy.trans (grown_of_below HB2.out (some bm)) HG3.out⟩
set_option maxHeartbeats 8000000 in
set_option maxRecDepth 100000 in
theorem good_calls {bm : Nat} {l : List Int} {A : Option Addr} {c : Nat} {w : World} (hok : ok6 l) (hc : l.length ≤ c) (hr : KI.C w A l.length l) (hme : Memo w bm) :
    Calls Tryd.prog 56 #[.map (some bm), .slice A l.length c] w fun e w' => ∃ v' : Value, e = .returned v' ∧ Kd.S KL 22 w' w.heap.size (fun _ => True) v' ((mv l).filter fun m => !won (nx l m)) ∧ w.grownBy w' (some bm) := by
  have eg : ∀ args w, (callFunc 69 args).run Tryd.prog w = .ok (.enter 69 args) w := enters_of Tryd.func69 (by kernel_rfl) rfl
  obtain ⟨kb, hkb⟩ := (bites_ev hok).rounds
  obtain ⟨Bf, hBf⟩ : ∃ B, w.heap.size = B := ⟨_, rfl⟩
  have hbm : bm < Bf := by rw [← hBf]; exact hme.lt
  have c1 := blk_new w (.cells #[.map (some bm)] 52)
  have c2 := blk_new (w.alloc (.cells #[.map (some bm)] 52)) (.cells #[.slice A l.length c] 22)
  have c1' := blk_alloc c1 (.cells #[.slice A l.length c] 22)
  simp only [PrintSizes.size_alloc_, hBf] at c1' c2
  have hme2 : Memo ((w.alloc (.cells #[.map (some bm)] 52)).alloc (.cells #[.slice A l.length c] 22)) bm := (hme.kept (World.grownBy_alloc _ _ none) (by simp)).kept (World.grownBy_alloc _ _ none) (by simp)
  have hr2 : KI.C ((w.alloc (.cells #[.map (some bm)] 52)).alloc (.cells #[.slice A l.length c] 22)) A l.length l := Kd.C_alloc (Kd.C_alloc hr _) _
  have hgw : w.grownBy ((w.alloc (.cells #[.map (some bm)] 52)).alloc (.cells #[.slice A l.length c] 22)) (some bm) := World.grownBy.trans (World.grownBy_alloc _ _ _) (World.grownBy_alloc _ _ _)
  have hsz : ((w.alloc (.cells #[.map (some bm)] 52)).alloc (.cells #[.slice A l.length c] 22)).heap.size = Bf + 1 + 1 := by simp [hBf]
  have C1 := Aside0.mk c1'
  have C2 := Aside0.mk c2
  have HME := Aside0.mk hme2
  have HR := Aside0.mk hr2
  have HGW := Aside0.mk hgw
  have HSZ := Aside0.mk hsz
  have HKB := Aside0.mk hkb
  have HOK := Aside0.mk hok
  clear c1 c2 c1' hme2 hr2 hgw hsz hkb hme hr hok
  go_enter Tryd.func56, Tryd.ntmps56
  go_wp2_with (first
    | (go_at_call 65; refine (impl_bites.calls kb A c l _ _ HR.out hc HKB.out).mono ?_; rintro e w3 ⟨v6, rfl, hs3, hb3⟩; obtain ⟨A6, c6, rfl⟩ := Kd.S_slice hs3; have HS3 := Aside0.mk hs3; have HB3 := Aside0.mk hb3; clear hs3 hb3)
    | (go_at_call 52
       obtain ⟨f, hf⟩ := HS3.out
       refine (delete_rows 69 #[.pointer (some ⟨Bf, 0, none⟩), .pointer (some ⟨Bf + 1, 0, none⟩)] eg (fun m => won (nx l m)) (some bm) (fun W => Memo W bm ∧ ((w.alloc (.cells #[.map (some bm)] 52)).alloc (.cells #[.slice A l.length c] 22)).grownBy W (some bm)) f (Bf + 1 + 1) (fun k => Bf + 1 + 1 ≤ k) (mv l).zipIdx (fun k hk e => by injection e with e; omega) ?hp ?hI _ w3 ⟨HME.out.kept (grown_of_below HB3.out none) (by simp), grown_of_below HB3.out _⟩ (by rw [← HSZ.out]; exact Kd.R_mono (Kd.R_bound hf) (fun k hk => hk.2.1))).mono ?_
       case hp =>
         intro W x Ax cx hx hI hC hcx
         obtain ⟨es, cl', hmap⟩ := HME.out.map
         have hx1 : x ∈ mv l := by
           obtain ⟨z, hz, rfl⟩ := List.mem_map.1 hx
           have h1 : z.1 ∈ (mv l).zipIdx.map Prod.fst := List.mem_map_of_mem (f := Prod.fst) hz
           rwa [List.zipIdx_map_fst] at h1
         refine (good1 ((hI.2.block Bf (blk_lt C1.out) (by simp; omega)).trans C1.out) ((hI.2.block (Bf + 1) (blk_lt C2.out) (by simp; omega)).trans C2.out) HOK.out hc (C_keep HR.out hI.2 (fun a u hc e => cell_map hmap hc (by injection e))) hx1 hcx hC hI.1).mono ?_
         rintro e w' ⟨rfl, hm, hg⟩
         exact ⟨rfl, ⟨hm, World.grownBy.trans hI.2 hg⟩, hg⟩
       case hI =>
         intro W W' row hI hg hrow
         have h2 := hI.2
         refine ⟨hI.1.kept hg (fun e => by have := hrow bm e.symm; omega), ⟨hg.os.trans h2.os, hg.tape.trans h2.tape, hg.output.trans h2.output, Nat.le_trans h2.size hg.size, fun i hi hne => (hg.block i (Nat.lt_of_lt_of_le hi h2.size) (fun e => by have := hrow i e.symm; rw [HSZ.out] at hi; omega)).trans (h2.block i hi hne)⟩⟩
       rintro e w4 ⟨v4, rfl, hr4, hi4, hc4⟩
       have HR4 := Aside0.mk hr4
       have HI4 := Aside0.mk hi4.2
       clear hr4 hi4 hc4))
  go_ret
  refine ⟨v4, rfl, ?_, World.grownBy.trans HGW.out HI4.out⟩
  have h1 := S_sieve HR4.out (sieve_nodup _ _)
  rw [sieve_fst (fun m => won (nx l m)) (mv l)] at h1
  exact Kd.S_lower (Kd.S_mono h1 (fun _ _ => trivial)) (by omega)

def impl_GoodChomps.f (l0 : List Int) : Option (List (List Int) × Bool) := if l0.length ≤ 4000000 then some (gres l0) else none
set_option maxHeartbeats 4000000 in
set_option maxRecDepth 100000 in
theorem impl_GoodChomps.calls (A0 : Option Addr) (c0 : Nat) (l0 : List Int) (r1 : List (List Int)) (r2 : Bool) (w : World) (hr0 : KI.C w A0 l0.length l0) (hc0 : l0.length ≤ c0) (h : impl_GoodChomps.f l0 = some (r1, r2)) :
    Calls Tryd.prog 31 #[.slice A0 l0.length c0] w fun e w' => ∃ v0_ : Value, e = .returned (.tuple #[v0_, .bool r2]) ∧ Kd.S KL 22 w' w.heap.size (fun _ => True) v0_ r1 ∧ Below w.heap.size w w' := by
  unfold impl_GoodChomps.f at h
  split at h
  case isFalse => cases h
  case isTrue hl =>
    injection h with h
    unfold gres at h
    have hmm := @run_makeMap Tryd.prog
    have HR := Aside0.mk hr0
    cases hb : isC l0 with
    | true =>
      have his := isChomp_calls hr0 hc0 hl hb
      rw [hb, if_pos rfl, Prod.mk.injEq] at h
      obtain ⟨h1, rfl⟩ := h
      have H1 := Aside0.mk h1
      have HOK := Aside0.mk (isC_ok hb).1
      clear h1 hr0 hb
      go_enter Tryd.func31, Tryd.ntmps31
      go_wp2_with (first
        | (go_at_call 35; refine his.mono ?_; rintro e w1 ⟨rfl, hb1⟩; have HB1 := Aside0.mk hb1; have HM1 := Aside0.mk (Memo.made w1); have HR1 := Aside0.mk (Kd.C_alloc (Kd.C_below HR.out hb1) (.map #[] 0)); clear hb1)
        | (go_at_call 56; refine (good_calls HOK.out hc0 HR1.out HM1.out).mono ?_; rintro e w2 ⟨v2, rfl, hs2, hg2⟩; have HS2 := Aside0.mk hs2; have HG2 := Aside0.mk hg2; clear hs2 hg2))
      go_ret2
      refine ⟨v2, rfl, ?_, ?_⟩
      · have h3 := HS2.out
        rw [H1.out] at h3
        exact Kd.S_lower h3 (Nat.le_trans HB1.out.size (by simp))
      · exact ((Chg.of_below HB1.out).then_ ((Chg.of_below (below_alloc (Below.refl _ _) _)).then_ (Chg.of_grown HG2.out) (fun j hj => .inr (by injection hj with hj; omega))) (fun j hj => hj.elim)).below
    | false =>
      have his := isChomp_calls hr0 hc0 hl hb
      rw [hb, if_neg (by simp), Prod.mk.injEq] at h
      obtain ⟨rfl, rfl⟩ := h
      clear hr0 hb
      go_enter Tryd.func31, Tryd.ntmps31
      go_wp2_with (go_at_call 35; refine his.mono ?_; rintro e w1 ⟨rfl, hb1⟩; have HB1 := Aside0.mk hb1; clear hb1)
      go_ret2
      exact ⟨_, rfl, Kd.S_nil _ _ _ _ _, HB1.out⟩
end Go.Proofs.YtnmibkkchgagbaaDoor.All
