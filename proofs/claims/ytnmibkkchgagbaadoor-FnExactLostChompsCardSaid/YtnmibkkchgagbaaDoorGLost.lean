/- impl.LostChomps lists the lost chomps with a first row and so many squares: its contract, in the form of the print. Conditions: none. -/
import Derived.Test.YtnmibkkchgagbaaDoorGGood
import Derived.Deep.QuietTactic
import Derived.BigQuiet
namespace Go.Proofs.YtnmibkkchgagbaaDoor.All
open Go.RowKit Go.Proofs.YtnmibkkchgagbaaDoorW.PrintWords Go.Proofs.YtnmibkkchgagbaaDoorW.PrintLast Go.Proofs.YtnmibkkchgagbaaDoorW.PrintMore Go.Shelf Go.Joins Go.Proofs.YtnmibkkchgagbaaDoor.PAll Go.Proofs.YtnmibkkchgagbaaDoor.Memo Go.Proofs.YtnmibkkchgagbaaDoor.PFate Go.Proofs.YtnmibkkchgagbaaDoor.PChomp Go.Proofs.YtnmibkkchgagbaaDoor.PQuick Go.Proofs.YtnmibkkchgagbaaDoor.PHeap2
set_option linter.unusedVariables false
set_option linter.unusedSimpArgs false

/-- The filter of impl.LostChomps. -/
def lout (a b : Int) (c : List Int) : Bool := decide (rd c 0 ≠ a) || decide (sm c ≠ b)
set_option maxHeartbeats 8000000 in
set_option maxRecDepth 100000 in
theorem lost2 {Bw Bs : Nat} {a b : Int} {x : List Int} {A : Option Addr} {c : Nat} {W : World} (hw : W.heap[Bw]? = some (.cells #[.int .i64 a] 3 (0, 0))) (hs : W.heap[Bs]? = some (.cells #[.int .i64 b] 3 (0, 0))) (hok : ok6 x) (hne : x ≠ []) (hr : KI.C W A x.length x) :
    Calls Tryd.prog 53 #[.slice A x.length c, .pointer (some ⟨Bw, 0, none⟩), .pointer (some ⟨Bs, 0, none⟩)] W fun e w' => e = .returned (.bool (lout a b x)) ∧ Below W.heap.size W w' := by
  have hcl : 0 < x.length := List.length_pos_iff.2 hne
  have hclz : (0 : Int) < (x.length : Int) := by omega
  obtain ⟨ad, e, hy0⟩ := Kd.at_int hr 0 (by omega) hclz
  subst e
  replace hy0 : W.cell? ad = some (.int .i64 (rd x 0)) := hy0
  have cw : W.cell? ⟨Bw, 0, none⟩ = some (.int .i64 a) := (blk_cell hw 0).trans rfl
  have cs : W.cell? ⟨Bs, 0, none⟩ = some (.int .i64 b) := (blk_cell hs 0).trans rfl
  have hlo : lout a b x = (decide (rd x 0 ≠ a) || decide (sm x ≠ b)) := rfl
  rw [hlo]
  have HOK := Aside0.mk hok
  have HR := Aside0.mk hr
  obtain ⟨y, hy⟩ : ∃ y, rd x 0 = y := ⟨_, rfl⟩
  obtain ⟨s, hsm⟩ : ∃ s, sm x = s := ⟨_, rfl⟩
  rw [hy] at hy0 ⊢
  rw [hsm]
  have HSM := Aside0.mk hsm
  have HD0 : Aside0 (Below W.heap.size W W.drew) := ⟨below_drew (Below.refl _ _)⟩
  have s0 := three_below (w2 := W.drew) (And.intro hy0 (And.intro cw cs)) HD0.out
  clear hw hs hok hne hr hlo hsm hy
  by_cases hA : y = a
  · have hA1 : (y == a) = true := beq_iff_eq.2 hA
    have hA2 : (y != a) = false := by rw [bne, hA1]; rfl
    have HA : Aside0 (decide (y ≠ a) = false) := ⟨decide_eq_false (fun h => h hA)⟩
    clear hA cw cs hy0
    by_cases hB : s = b
    · have hB1 : (s == b) = true := beq_iff_eq.2 hB
      have hB2 : (s != b) = false := by rw [bne, hB1]; rfl
      have HB : Aside0 (decide (s ≠ b) = false) := ⟨decide_eq_false (fun h => h hB)⟩
      clear hB
      go_enter Tryd.func53, Tryd.ntmps53
      go_wp2
      go_region_held3 (fun w' => w'.cell? ad = some (.int .i64 y) ∧ w'.cell? ⟨Bw, 0, none⟩ = some (.int .i64 a) ∧ w'.cell? ⟨Bs, 0, none⟩ = some (.int .i64 b)) (first | assumption)
        ((go_at_call 54; refine (impl_sum_calls HOK.out (Kd.C_drew HR.out)).mono ?_; rw [HSM.out]; rintro e w2 ⟨rfl, hb2⟩; have s2 := three_below s0 hb2; have HB2 : Aside0 (Below W.heap.size W w2) := ⟨HD0.out.trans hb2⟩; clear hb2))
      all_goals (try go_wp2_with fail)
      all_goals go_ret
      all_goals exact ⟨by rw [HA.out, HB.out]; rfl, HB2.out⟩
    · have hB1 : (s == b) = false := beq_eq_false_iff_ne.2 hB
      have hB2 : (s != b) = true := by rw [bne, hB1]; rfl
      have HB : Aside0 (decide (s ≠ b) = true) := ⟨decide_eq_true hB⟩
      clear hB
      go_enter Tryd.func53, Tryd.ntmps53
      go_wp2
      go_region_held3 (fun w' => w'.cell? ad = some (.int .i64 y) ∧ w'.cell? ⟨Bw, 0, none⟩ = some (.int .i64 a) ∧ w'.cell? ⟨Bs, 0, none⟩ = some (.int .i64 b)) (first | assumption)
        ((go_at_call 54; refine (impl_sum_calls HOK.out (Kd.C_drew HR.out)).mono ?_; rw [HSM.out]; rintro e w2 ⟨rfl, hb2⟩; have s2 := three_below s0 hb2; have HB2 : Aside0 (Below W.heap.size W w2) := ⟨HD0.out.trans hb2⟩; clear hb2))
      all_goals (try go_wp2_with fail)
      all_goals go_ret
      all_goals exact ⟨by rw [HA.out, HB.out]; rfl, HB2.out⟩
  · have hA1 : (y == a) = false := beq_eq_false_iff_ne.2 hA
    have hA2 : (y != a) = true := by rw [bne, hA1]; rfl
    have HA : Aside0 (decide (y ≠ a) = true) := ⟨decide_eq_true hA⟩
    clear hA
    clear s0
    go_enter Tryd.func53, Tryd.ntmps53
    go_wp2
    go_quiet (fail)
    go_wp2
    go_ret
    exact ⟨by rw [HA.out]; rfl, by first | exact HD0.out | exact pw_below_drewN (Below.refl _ _) _⟩
theorem filter_lout (a b : Int) (L : List (List Int)) : (L.filter (fun x => !lout a b x)).filter (fun x => !won x) = L.filter (lpred a b) := by
  rw [List.filter_filter]
  refine congrArg (fun f => L.filter f) (funext fun c => ?_)
  unfold lout lpred
  by_cases h1 : rd c 0 = a <;> by_cases h2 : sm c = b <;> cases won c <;> simp [h1, h2]
theorem within_calls (a lo hi : Int) (r : Bool) (W : World) (h : decide (lo ≤ a ∧ a ≤ hi) = r) : Calls Tryd.prog 51 #[.int .i64 a, .int .i64 lo, .int .i64 hi] W fun e w' => e = .returned (.bool r) ∧ Drawn0 W w' := impl_within.calls a lo hi r W (by rw [within_eq, h])
def impl_LostChomps.f (a0 a1 : Int) : Option (List (List Int) × Bool) := some (lres a0 a1)
set_option maxHeartbeats 8000000 in
set_option maxRecDepth 100000 in
theorem impl_LostChomps.calls (a0 a1 : Int) (r1 : List (List Int)) (r2 : Bool) (w : World) (h : impl_LostChomps.f a0 a1 = some (r1, r2)) :
    Calls Tryd.prog 26 #[.int .i64 a0, .int .i64 a1] w fun e w' => ∃ v0_ : Value, e = .returned (.tuple #[v0_, .bool r2]) ∧ Kd.S KL 22 w' w.heap.size (fun _ => True) v0_ r1 ∧ Below w.heap.size w w' := by
  unfold impl_LostChomps.f at h
  injection h with h
  unfold lres at h
  have eg : ∀ args w, (callFunc 53 args).run Tryd.prog w = .ok (.enter 53 args) w := enters_of Tryd.func53 (by kernel_rfl) rfl
  have hs0 := fun b W (hb : inR a0 = b) => impl_isSide.calls a0 b W (by rw [isSide_eq, hb])
  have hs1 := fun b W (hb : inQ a1 = b) => within_calls a1 1 36 b W hb
  obtain ⟨Bw, hBw⟩ : ∃ B, w.heap.size = B := ⟨_, rfl⟩
  have c1 := blk_new w (.cells #[.int .i64 a0] 3)
  have c2 := blk_new (w.alloc (.cells #[.int .i64 a0] 3)) (.cells #[.int .i64 a1] 3)
  have c1' := blk_alloc c1 (.cells #[.int .i64 a1] 3)
  simp only [PrintSizes.size_alloc_, hBw] at c1' c2
  have hbl : Below w.heap.size w ((w.alloc (.cells #[.int .i64 a0] 3)).alloc (.cells #[.int .i64 a1] 3)) := below_alloc (below_alloc (Below.refl _ _) _) _
  have hsz : ((w.alloc (.cells #[.int .i64 a0] 3)).alloc (.cells #[.int .i64 a1] 3)).heap.size = Bw + 1 + 1 := by simp [hBw]
  have C1 := Aside0.mk c1'
  have C2 := Aside0.mk c2
  have HBL := Aside0.mk hbl
  have HSZ := Aside0.mk hsz
  clear c1 c2 c1' hbl hsz
  cases h0 : inR a0 with
  | false =>
    have hs0 := fun W => hs0 false W h0
    rw [h0, if_neg (by simp), Prod.mk.injEq] at h
    obtain ⟨rfl, rfl⟩ := h
    clear h0 hs1
    go_enter Tryd.func26, Tryd.ntmps26
    go_wp2_with (go_at_call 41; refine (hs0 _).mono ?_; rintro e w' ⟨rfl, ⟨nd, rfl⟩⟩)
    go_ret2
    exact ⟨_, rfl, Kd.S_nil _ _ _ _ _, pw_below_drewN HBL.out _⟩
  | true =>
    cases h1 : inQ a1 with
    | false =>
      have hs0 := fun W => hs0 true W h0
      have hs1 := fun W => hs1 false W h1
      rw [h0, h1, if_neg (by simp), Prod.mk.injEq] at h
      obtain ⟨rfl, rfl⟩ := h
      clear h0 h1
      go_enter Tryd.func26, Tryd.ntmps26
      go_wp2_with (first
        | (go_at_call 41; refine (hs0 _).mono ?_; rintro e w' ⟨rfl, ⟨nd, rfl⟩⟩)
        | (go_at_call 51; refine (hs1 _).mono ?_; rintro e w' ⟨rfl, ⟨nd2, rfl⟩⟩))
      go_ret2
      exact ⟨_, rfl, Kd.S_nil _ _ _ _ _, by first | exact pw_below_drewN HBL.out _ | exact pw_below_drewN (pw_below_drewN HBL.out _) _⟩
    | true =>
      have hs0 := fun W => hs0 true W h0
      have hs1 := fun W => hs1 true W h1
      rw [h0, h1, if_pos ⟨rfl, rfl⟩, Prod.mk.injEq] at h
      obtain ⟨hr1, rfl⟩ := h
      have q0 := of_decide_eq_true h0
      have hw6 : a0.toNat ≤ 6 := by omega
      obtain ⟨L, hL⟩ : ∃ L, allC a0.toNat 6 = L := ⟨_, rfl⟩
      have hT : ∀ c ∈ L, ok6 c ∧ c ≠ [] := by
        subst hL
        exact fun c hc => ⟨all_ok6 hw6 (by omega) hc, (mem_all.1 hc).1⟩
      have hch := fun W => impl_chomps.calls a0 6 L W (by unfold impl_chomps.f; rw [if_pos (by omega), ← hL]; rfl)
      rw [hL] at hr1
      have H1 := Aside0.mk hr1
      have HT := Aside0.mk hT
      have HCH := Aside0.mk hch
      clear h0 h1 hr1 hT hch hL hw6
      go_enter Tryd.func26, Tryd.ntmps26
      go_wp2_with (first
        | (go_at_call 41; refine (hs0 _).mono ?_; rintro e w' ⟨rfl, ⟨nd, rfl⟩⟩)
        | (go_at_call 51; refine (hs1 _).mono ?_; rintro e w' ⟨rfl, ⟨nd2, rfl⟩⟩)
        | (go_at_call 43; refine (HCH.out _).mono ?_; rintro e w3 ⟨v15, rfl, hs3, hb3⟩; obtain ⟨A15, c15, rfl⟩ := Kd.S_slice hs3; have HS3 : Aside0 (Kd.S KL 22 w3 (Bw + 1 + 1) (fun _ => True) (.slice A15 L.length c15) L) := ⟨by rw [← HSZ.out]; exact hs3⟩; have HB3 : Aside0 (Below (Bw + 1 + 1) ((w.alloc (.cells #[.int .i64 a0] 3)).alloc (.cells #[.int .i64 a1] 3)) w3) := ⟨by rw [← HSZ.out]; exact (pw_below_drewN (Below.refl _ _) (nd + nd2)).trans hb3⟩; clear hs3 hb3)
        | (go_at_call 52
           obtain ⟨f, hf⟩ := HS3.out
           refine (delete_rows 53 #[.pointer (some ⟨Bw, 0, none⟩), .pointer (some ⟨Bw + 1, 0, none⟩)] eg (lout a0 a1) none (fun W => W.heap[Bw]? = some (.cells #[.int .i64 a0] 3 (0, 0)) ∧ W.heap[Bw + 1]? = some (.cells #[.int .i64 a1] 3 (0, 0))) f (Bw + 1 + 1) (fun k => Bw + 1 + 1 ≤ k) L.zipIdx (fun k hk e => by cases e) ?hp ?hI _ w3 ⟨(HB3.out.block Bw (by omega)).trans C1.out, (HB3.out.block (Bw + 1) (by omega)).trans C2.out⟩ (Kd.R_mono (Kd.R_bound hf) (fun k hk => hk.2.1))).mono ?_
           case hp =>
             intro W x Ax cx hx hI hC hcx
             have hx1 : x ∈ L := by
               obtain ⟨z, hz, rfl⟩ := List.mem_map.1 hx
               have h1 : z.1 ∈ L.zipIdx.map Prod.fst := List.mem_map_of_mem (f := Prod.fst) hz
               rwa [List.zipIdx_map_fst] at h1
             refine (lost2 hI.1 hI.2 (HT.out x hx1).1 (HT.out x hx1).2 hC).mono ?_
             rintro e w' ⟨rfl, hb⟩
             have hg := grown_of_below hb none
             exact ⟨rfl, ⟨(hg.block _ (blk_lt hI.1) (by simp)).trans hI.1, (hg.block _ (blk_lt hI.2) (by simp)).trans hI.2⟩, hg⟩
           case hI =>
             intro W W' row hI hg hrow
             exact ⟨(hg.block _ (blk_lt hI.1) (fun e => by have := hrow Bw e.symm; omega)).trans hI.1, (hg.block _ (blk_lt hI.2) (fun e => by have := hrow (Bw + 1) e.symm; omega)).trans hI.2⟩
           rintro e w4 ⟨v4, rfl, hr4, hi4, hc4⟩
           have h5 := S_sieve hr4 (sieve_nodup _ _)
           rw [sieve_fst (lout a0 a1) L] at h5
           have HS4 := Aside0.mk h5
           have HC4 := Aside0.mk hc4
           clear hr4 hi4 hc4 h5)
        | (go_at_call 42; refine (lost_calls HS4.out (fun x hx => (HT.out x ((List.mem_filter.1 hx).1)).1)).mono ?_; rintro e w5 ⟨v5, rfl, hs5, hc5⟩; have HS5 := Aside0.mk hs5; have HC5 := Aside0.mk hc5; clear hs5 hc5))
      go_ret2
      refine ⟨v5, rfl, ?_, ?_⟩
      · have h3 := HS5.out
        rw [filter_lout, H1.out] at h3
        exact Kd.S_lower (Kd.S_mono h3 (fun _ _ => trivial)) (by omega)
      · have hb3 : Below w.heap.size w w3 := HBL.out.trans (HB3.out.mono (by omega))
        have hz3 := hb3.size
        refine Chg.below (((Chg.of_below hb3).then_ HC4.out (fun j hj => .inr ?_)).then_ HC5.out (fun j hj => .inr ?_))
        · rcases hj with hj | hj
          · cases hj
          · have := Kd.S_base HS3.out j hj.symm
            omega
        · have := Kd.S_base HS4.out j hj.symm
          omega
end Go.Proofs.YtnmibkkchgagbaaDoor.All
