/- What impl.HeapOfChomp, impl.WinsChomp, impl.QuickestWin, impl.lost and impl.CountLostChomps hand back: their contracts, in the form of the print. Conditions: lists of at most four million numbers. -/
import Derived.Test.YtnmibkkchgagbaaDoorGOfAll
import Derived.Test.YtnmibkkchgagbaaDoorGLkAll
namespace Go.Proofs.YtnmibkkchgagbaaDoor.All
open Go.RowKit Go.Proofs.YtnmibkkchgagbaaDoorW.PrintWords Go.Proofs.YtnmibkkchgagbaaDoorW.PrintLast Go.Proofs.YtnmibkkchgagbaaDoorW.PrintMore Go.Shelf Go.Joins Go.Proofs.YtnmibkkchgagbaaDoor.PAll Go.Proofs.YtnmibkkchgagbaaDoor.Memo Go.Proofs.YtnmibkkchgagbaaDoor.PFate Go.Proofs.YtnmibkkchgagbaaDoor.PChomp
set_option linter.unusedVariables false
set_option linter.unusedSimpArgs false

theorem fd0 (a b : Int) (w : World) : Sem.run Tryd.prog (Instr.field 50 (.agg #[.int .i64 a, .int .i64 b]) 0) w = .ok (.int .i64 a) w := by kernel_rfl
theorem fd1 (a b : Int) (w : World) : Sem.run Tryd.prog (Instr.field 50 (.agg #[.int .i64 a, .int .i64 b]) 1) w = .ok (.int .i64 b) w := by kernel_rfl
theorem of_fate {l : List Int} {A : Option Addr} {c bm : Nat} {W : World} (hok : ok6 l) (hc : l.length ≤ c) (hr : KI.C W A l.length l) (hm : Memo W bm) :
    Calls Tryd.prog 45 #[.map (some bm), .slice A l.length c] W fun e w' => e = .returned (.agg #[.int .i64 (fate l).1, .int .i64 (fate l).2]) ∧ Memo w' bm ∧ W.grownBy w' (some bm) :=
  (of_any 40 l A c bm W hok (by have := sm_36 hok; omega) hc hr hm).mono fun e w' h => ⟨h.1, h.2.1, h.2.2.1⟩
theorem isChomp_calls {A : Option Addr} {c : Nat} {l : List Int} {b : Bool} {W : World} (hr : KI.C W A l.length l) (hc : l.length ≤ c) (hl : l.length ≤ 4000000) (hb : isC l = b) :
    Calls Tryd.prog 35 #[.slice A l.length c] W fun e w' => e = .returned (.bool b) ∧ Below W.heap.size W w' := by
  obtain ⟨k, hk⟩ := (impl_isC l hl).rounds
  rw [hb] at hk
  exact impl_IsChomp.calls k A c l b W hr hc hk

def impl_HeapOfChomp.f (l0 : List Int) : Option (Int × Bool) := if l0.length ≤ 4000000 then some (if isC l0 = true then ((fate l0).1, true) else (0, false)) else none
set_option maxHeartbeats 4000000 in
set_option maxRecDepth 100000 in
theorem impl_HeapOfChomp.calls (A0 : Option Addr) (c0 : Nat) (l0 : List Int) (r1 : Int) (r2 : Bool) (w : World) (hr0 : KI.C w A0 l0.length l0) (hc0 : l0.length ≤ c0) (h : impl_HeapOfChomp.f l0 = some (r1, r2)) :
    Calls Tryd.prog 18 #[.slice A0 l0.length c0] w fun e w' => e = .returned (.tuple #[.int .i64 r1, .bool r2]) ∧ Below w.heap.size w w' := by
  unfold impl_HeapOfChomp.f at h
  split at h
  case isFalse => cases h
  case isTrue hl =>
    have hmm := @run_makeMap Tryd.prog
    have hf0 := fd0
    have hf1 := fd1
    have HR := Aside0.mk hr0
    cases hb : isC l0 with
    | true =>
      have his := isChomp_calls hr0 hc0 hl hb
      rw [hb, if_pos rfl] at h
      injection h with h
      rw [Prod.mk.injEq] at h
      obtain ⟨h1, rfl⟩ := h
      have H1 := Aside0.mk h1
      have HOK := Aside0.mk (isC_ok hb).1
      clear h1 hr0 hb
      obtain ⟨q, hq⟩ : ∃ q, fate l0 = q := ⟨_, rfl⟩
      have hof := fun (W : World) (bm : Nat) (h1 : KI.C W A0 l0.length l0) (h2 : Memo W bm) => of_fate HOK.out hc0 h1 h2
      rw [hq] at hof
      have HOF := Aside0.mk hof
      have HQ := Aside0.mk hq
      clear hq hof
      go_enter Tryd.func18, Tryd.ntmps18
      go_wp2_with (first
        | (go_at_call 35; refine his.mono ?_; rintro e w1 ⟨rfl, hb1⟩; have HB1 := Aside0.mk hb1; have HM1 := Aside0.mk (Memo.made w1); have HR1 := Aside0.mk (Kd.C_alloc (Kd.C_below HR.out hb1) (.map #[] 0)); clear hb1)
        | (go_at_call 45; refine (HOF.out _ _ HR1.out HM1.out).mono ?_; rintro e w2 ⟨rfl, hm2, hg2⟩; have HG2 := Aside0.mk hg2; clear hm2 hg2))
      go_ret2
      refine ⟨by have e := H1.out; rw [HQ.out] at e; subst e; rfl, ?_⟩
      exact ((Chg.of_below HB1.out).then_ ((Chg.of_below (below_alloc (Below.refl _ _) _)).then_ (Chg.of_grown HG2.out) (fun j hj => .inr (by injection hj with hj; omega))) (fun j hj => hj.elim)).below
    | false =>
      have his := isChomp_calls hr0 hc0 hl hb
      rw [hb, if_neg (by simp)] at h
      injection h with h
      rw [Prod.mk.injEq] at h
      obtain ⟨rfl, rfl⟩ := h
      clear hr0 hb
      go_enter Tryd.func18, Tryd.ntmps18
      go_wp2_with (go_at_call 35; refine his.mono ?_; rintro e w1 ⟨rfl, hb1⟩; have HB1 := Aside0.mk hb1; clear hb1)
      go_ret2
      exact ⟨rfl, HB1.out⟩

def impl_WinsChomp.f (l0 : List Int) : Option (Bool × Bool) := (impl_HeapOfChomp.f l0).map (fun t => (decide (0 < t.1), t.2))
set_option maxHeartbeats 4000000 in
theorem impl_WinsChomp.calls (A0 : Option Addr) (c0 : Nat) (l0 : List Int) (r1 r2 : Bool) (w : World) (hr0 : KI.C w A0 l0.length l0) (hc0 : l0.length ≤ c0) (h : impl_WinsChomp.f l0 = some (r1, r2)) :
    Calls Tryd.prog 20 #[.slice A0 l0.length c0] w fun e w' => e = .returned (.tuple #[.bool r1, .bool r2]) ∧ Below w.heap.size w w' := by
  obtain ⟨⟨q, b⟩, hq, he⟩ := Option.map_eq_some_iff.1 h
  rw [Prod.mk.injEq] at he
  obtain ⟨rfl, rfl⟩ := he
  have hh := impl_HeapOfChomp.calls A0 c0 l0 q b w hr0 hc0 hq
  clear h hq hr0
  simp only
  go_enter Tryd.func20, Tryd.ntmps20
  go_wp2_with (go_at_call 18; refine hh.mono ?_; rintro e w1 ⟨rfl, hb1⟩; have HB1 := Aside0.mk hb1; clear hb1)
  go_ret2
  exact ⟨rfl, HB1.out⟩

def impl_QuickestWin.f (l0 : List Int) : Option (Int × Bool) := if l0.length ≤ 4000000 then some (if isC l0 = true ∧ 0 < (fate l0).1 then ((fate l0).2, true) else (0, false)) else none
set_option maxHeartbeats 4000000 in
set_option maxRecDepth 100000 in
theorem impl_QuickestWin.calls (A0 : Option Addr) (c0 : Nat) (l0 : List Int) (r1 : Int) (r2 : Bool) (w : World) (hr0 : KI.C w A0 l0.length l0) (hc0 : l0.length ≤ c0) (h : impl_QuickestWin.f l0 = some (r1, r2)) :
    Calls Tryd.prog 24 #[.slice A0 l0.length c0] w fun e w' => e = .returned (.tuple #[.int .i64 r1, .bool r2]) ∧ Below w.heap.size w w' := by
  unfold impl_QuickestWin.f at h
  split at h
  case isFalse => cases h
  case isTrue hl =>
    have hmm := @run_makeMap Tryd.prog
    have hf0 := fd0
    have hf1 := fd1
    have HR := Aside0.mk hr0
    by_cases hb : isC l0 = true ∧ 0 < (fate l0).1
    · have hw := fun b => impl_WinsChomp.calls A0 c0 l0 true b w hr0 hc0
      rw [if_pos hb] at h
      injection h with h
      rw [Prod.mk.injEq] at h
      obtain ⟨h1, rfl⟩ := h
      have hw := hw true (by unfold impl_WinsChomp.f impl_HeapOfChomp.f; rw [if_pos hl, if_pos hb.1]; simp [hb.2])
      have H1 := Aside0.mk h1
      have HOK := Aside0.mk (isC_ok hb.1).1
      clear h1 hr0 hb
      obtain ⟨q, hq⟩ : ∃ q, fate l0 = q := ⟨_, rfl⟩
      have hof := fun (W : World) (bm : Nat) (h1 : KI.C W A0 l0.length l0) (h2 : Memo W bm) => of_fate HOK.out hc0 h1 h2
      rw [hq] at hof
      have HOF := Aside0.mk hof
      have HQ := Aside0.mk hq
      clear hq hof
      go_enter Tryd.func24, Tryd.ntmps24
      go_wp2_with (first
        | (go_at_call 20; refine hw.mono ?_; rintro e w1 ⟨rfl, hb1⟩; have HB1 := Aside0.mk hb1; have HM1 := Aside0.mk (Memo.made w1); have HR1 := Aside0.mk (Kd.C_alloc (Kd.C_below HR.out hb1) (.map #[] 0)); clear hb1)
        | (go_at_call 45; refine (HOF.out _ _ HR1.out HM1.out).mono ?_; rintro e w2 ⟨rfl, hm2, hg2⟩; have HG2 := Aside0.mk hg2; clear hm2 hg2))
      go_ret2
      refine ⟨by have e := H1.out; rw [HQ.out] at e; subst e; rfl, ?_⟩
      exact ((Chg.of_below HB1.out).then_ ((Chg.of_below (below_alloc (Below.refl _ _) _)).then_ (Chg.of_grown HG2.out) (fun j hj => .inr (by injection hj with hj; omega))) (fun j hj => hj.elim)).below
    · rw [if_neg hb] at h
      injection h with h
      rw [Prod.mk.injEq] at h
      obtain ⟨rfl, rfl⟩ := h
      obtain ⟨b, hw⟩ : ∃ b, impl_WinsChomp.f l0 = some (false, b) := by
        unfold impl_WinsChomp.f impl_HeapOfChomp.f
        rw [if_pos hl]
        by_cases hc : isC l0 = true
        · rw [if_pos hc]
          exact ⟨true, by simp only [Option.map_some, Option.some.injEq, Prod.mk.injEq, and_true]; exact decide_eq_false (fun h => hb ⟨hc, h⟩)⟩
        · rw [if_neg hc]
          exact ⟨false, by simp⟩
      have hw := impl_WinsChomp.calls A0 c0 l0 false b w hr0 hc0 hw
      clear hr0 hb
      go_enter Tryd.func24, Tryd.ntmps24
      go_wp2_with (go_at_call 20; refine hw.mono ?_; rintro e w1 ⟨rfl, hb1⟩; have HB1 := Aside0.mk hb1; clear hb1)
      go_ret2
      exact ⟨rfl, HB1.out⟩

/-! ### the lost ones of a list -/
def won (x : List Int) : Bool := decide (0 < (fate x).1)
set_option maxHeartbeats 4000000 in
set_option maxRecDepth 100000 in
theorem lost1 {bm Bf : Nat} {x : List Int} {A : Option Addr} {c : Nat} {W : World} (hf : W.heap[Bf]? = some (.cells #[.map (some bm)] 52 (0, 0))) (hok : ok6 x) (hc : x.length ≤ c) (hr : KI.C W A x.length x) (hm : Memo W bm) :
    Calls Tryd.prog 62 #[.slice A x.length c, .pointer (some ⟨Bf, 0, none⟩)] W fun e w' => e = .returned (.bool (won x)) ∧ Memo w' bm ∧ W.grownBy w' (some bm) := by
  have ho := of_fate hok hc hr hm
  have hf0 := fd0
  have hf1 := fd1
  have cf : W.cell? ⟨Bf, 0, none⟩ = some (.map (some bm)) := (blk_cell hf 0).trans rfl
  have hw : won x = decide (0 < (fate x).1) := rfl
  rw [hw]
  clear hf hok hr hm hw
  generalize fate x = q at ho
  go_enter Tryd.func62, Tryd.ntmps62
  go_wp2_with (go_at_call 45; refine ho.mono ?_; rintro e w2 ⟨rfl, hm2, hg2⟩; have HM2 := Aside0.mk hm2; have HG2 := Aside0.mk hg2; clear hm2 hg2)
  go_ret
  exact ⟨rfl, HM2.out, HG2.out⟩
set_option maxHeartbeats 4000000 in
set_option maxRecDepth 100000 in
theorem lost_calls {v0 : Value} {l : List (List Int)} {w : World} {base : Nat} {ok : Nat → Prop} (hS : Kd.S KL 22 w base ok v0 l) (hl : ∀ x ∈ l, ok6 x) :
    Calls Tryd.prog 42 #[v0] w fun e w' => ∃ v' : Value, e = .returned v' ∧ Kd.S KL 22 w' base ok v' (l.filter fun x => !won x) ∧ Chg w w' (fun j => some j = v0.ownBlock) := by
  obtain ⟨f, hR⟩ := hS
  have eg : ∀ args w, (callFunc 62 args).run Tryd.prog w = .ok (.enter 62 args) w := enters_of Tryd.func62 (by kernel_rfl) rfl
  have hmm := @run_makeMap Tryd.prog
  obtain ⟨bm, hbm⟩ : ∃ B, w.heap.size = B := ⟨_, rfl⟩
  have hR1 : (Rw f).R 22 w base (fun k => ok k ∧ k < bm) v0 l.zipIdx := Kd.R_mono (Kd.R_bound hR) (fun k hk => And.intro hk.1 (Nat.lt_of_lt_of_eq hk.2.2.1 hbm))
  have m1 := Memo.made w
  have m2 := m1.kept (World.grownBy_alloc (w.alloc (.map #[] 0)) (.cells #[.map (some bm)] 52) none) (by simp)
  have c2 := blk_new (w.alloc (.map #[] 0)) (.cells #[.map (some bm)] 52)
  simp only [PrintSizes.size_alloc_, hbm] at m2 c2
  have hD := delete_rows 62 #[.pointer (some ⟨bm + 1, 0, none⟩)] eg won (some bm) (fun W => Memo W bm ∧ W.heap[bm + 1]? = some (.cells #[.map (some bm)] 52 (0, 0))) f base (fun k => ok k ∧ k < bm) l.zipIdx (fun k hk e => by injection e with e; omega)
    (fun W x A c hx hI hC hcl => by
      obtain ⟨z, hz, rfl⟩ := List.mem_map.1 hx
      have hz1 : z.1 ∈ l := by
        have h1 : z.1 ∈ l.zipIdx.map Prod.fst := List.mem_map_of_mem (f := Prod.fst) hz
        rwa [List.zipIdx_map_fst] at h1
      refine (lost1 hI.2 (hl _ hz1) hcl hC hI.1).mono ?_
      rintro e w' ⟨rfl, hm, hg⟩
      exact ⟨rfl, ⟨hm, (hg.block _ (blk_lt hI.2) (by simp)).trans hI.2⟩, hg⟩)
    (fun W W' row hI hg hrow => ⟨hI.1.kept hg (fun e => by have := (hrow bm e.symm).2; omega), (hg.block _ (blk_lt hI.2) (fun e => by have := (hrow (bm + 1) e.symm).2; omega)).trans hI.2⟩)
    v0 ((w.alloc (.map #[] 0)).alloc (.cells #[.map (some bm)] 52)) ⟨m2, c2⟩ (Kd.R_alloc (Kd.R_alloc hR1 _) _)
  have HD := Aside0.mk hD
  obtain ⟨A0, c0, e0⟩ := Kd.R_slice hR
  rw [List.length_zipIdx] at e0
  subst e0
  clear hR hR1 m1 m2 c2 hD
  go_enter Tryd.func42, Tryd.ntmps42
  go_wp2_with (go_at_call 52; refine HD.out.mono ?_; rintro e w2 ⟨v2, rfl, hr2, hi2, hc2⟩; have HR2 := Aside0.mk hr2; have HC2 := Aside0.mk hc2; clear hr2 hi2 hc2)
  go_ret
  refine ⟨v2, rfl, ?_, ?_⟩
  · have h1 := S_sieve HR2.out (sieve_nodup _ _)
    rw [sieve_fst won l] at h1
    exact Kd.S_mono h1 (fun _ hk => hk.1)
  · refine Chg.then_ (Chg.then_ (Chg.mono (Chg.of_below (below_alloc (Below.refl _ _) _)) (fun _ h => h.elim)) (Chg.of_below (below_alloc (Below.refl _ _) _)) (fun _ h => h.elim)) HC2.out (fun j hj => ?_)
    rcases hj with hj | hj
    · injection hj with hj
      exact .inr (by omega)
    · exact .inl hj

def inR (a : Int) : Bool := decide (1 ≤ a ∧ a ≤ 6)
theorem isSide_eq (a : Int) : impl_isSide.f a = some (inR a) := by
  unfold impl_isSide.f
  rw [within_eq]
  rfl
def impl_CountLostChomps.f (a0 a1 : Int) : Option (Int × Bool) := some (if inR a0 = true ∧ inR a1 = true then ((((allC a0.toNat a1.toNat).filter fun x => !won x).length : Int), true) else (0, false))
set_option maxHeartbeats 4000000 in
set_option maxRecDepth 100000 in
theorem impl_CountLostChomps.calls (a0 a1 : Int) (r1 : Int) (r2 : Bool) (w : World) (h : impl_CountLostChomps.f a0 a1 = some (r1, r2)) :
    Calls Tryd.prog 16 #[.int .i64 a0, .int .i64 a1] w fun e w' => e = .returned (.tuple #[.int .i64 r1, .bool r2]) ∧ Below w.heap.size w w' := by
  unfold impl_CountLostChomps.f at h
  injection h with h
  have hs0 := fun b W (hb : inR a0 = b) => impl_isSide.calls a0 b W (by rw [isSide_eq, hb])
  have hs1 := fun b W (hb : inR a1 = b) => impl_isSide.calls a1 b W (by rw [isSide_eq, hb])
  cases h0 : inR a0 with
  | false =>
    have hs0 := fun W => hs0 false W h0
    rw [h0, if_neg (by simp)] at h
    rw [Prod.mk.injEq] at h
    obtain ⟨rfl, rfl⟩ := h
    clear h0 hs1
    go_enter Tryd.func16, Tryd.ntmps16
    go_wp2_with (go_at_call 41; refine (hs0 _).mono ?_; rintro e w' ⟨rfl, ⟨nd, rfl⟩⟩)
    go_ret2
    exact ⟨rfl, by first | exact Below.refl _ _ | exact pw_below_drewN (Below.refl _ _) _⟩
  | true =>
    cases h1 : inR a1 with
    | false =>
      have hs0 := fun W => hs0 true W h0
      have hs1 := fun W => hs1 false W h1
      rw [h0, h1, if_neg (by simp)] at h
      rw [Prod.mk.injEq] at h
      obtain ⟨rfl, rfl⟩ := h
      clear h0 h1
      go_enter Tryd.func16, Tryd.ntmps16
      have tok1 : True := trivial
      go_wp2_with (first
        | (go_at_call 41; clear tok1; refine (hs0 _).mono ?_; rintro e w' ⟨rfl, ⟨nd, rfl⟩⟩)
        | (go_at_call 41; refine (hs1 _).mono ?_; rintro e w' ⟨rfl, ⟨nd2, rfl⟩⟩))
      go_ret2
      exact ⟨rfl, by first | exact Below.refl _ _ | exact pw_below_drewN (Below.refl _ _) _ | exact pw_below_drewN (pw_below_drewN (Below.refl _ _) _) _⟩
    | true =>
      have hs0 := fun W => hs0 true W h0
      have hs1 := fun W => hs1 true W h1
      rw [h0, h1, if_pos ⟨rfl, rfl⟩] at h
      rw [Prod.mk.injEq] at h
      obtain ⟨hr1, rfl⟩ := h
      have H1 := Aside0.mk hr1
      have r0 := of_decide_eq_true h0
      have r1 := of_decide_eq_true h1
      have HCH := Aside0.mk (fun W => impl_chomps.calls a0 a1 (allC a0.toNat a1.toNat) W (by unfold impl_chomps.f; rw [if_pos (by omega)]))
      have HOK := Aside0.mk (fun x (hx : x ∈ allC a0.toNat a1.toNat) => all_ok6 (by omega) (by omega) hx)
      clear h0 h1 hr1
      go_enter Tryd.func16, Tryd.ntmps16
      have tok1 : True := trivial
      go_wp2_with (first
        | (go_at_call 41; clear tok1; refine (hs0 _).mono ?_; rintro e w' ⟨rfl, ⟨nd, rfl⟩⟩)
        | (go_at_call 41; refine (hs1 _).mono ?_; rintro e w' ⟨rfl, ⟨nd2, rfl⟩⟩)
        | (go_at_call 43; refine (HCH.out _).mono ?_; rintro e w2 ⟨v2, rfl, hs2, hb2⟩; have HS2 := Aside0.mk hs2; have HB2 := Aside0.mk hb2; clear hs2 hb2)
        | (go_at_call 42; refine (lost_calls HS2.out HOK.out).mono ?_; rintro e w3 ⟨v3, rfl, hs3, hc3⟩; obtain ⟨A3, c3, rfl⟩ := Kd.S_slice hs3; have HC3 := Aside0.mk hc3; clear hs3 hc3))
      go_ret2
      refine ⟨by have e := H1.out; subst e; rfl, ?_⟩
      refine Chg.below (Chg.then_ (Chg.mono (Chg.of_below ?_) (fun _ h => h)) HC3.out (fun j hj => .inr ?_))
      · exact (pw_below_drewN (Below.refl w.heap.size w) (nd + nd2)).trans HB2.out
      · exact Kd.S_base HS2.out j hj.symm
end Go.Proofs.YtnmibkkchgagbaaDoor.All
