/- The call of a rule's values hands back the values of all strips up to a length: the contract of that function, in the form of the print. Conditions: a length of 0 to 60. -/
import Derived.Test.YtjchngehbngghaaPMoves
import Derived.Test.YtjchngehbngghaaGSeen
import Derived.Lib.SmallJoins
import Derived.Shelf.Abstract
import Derived.StillTailTactics
namespace Go.Proofs.Ytjchngehbngghaa.All
open Go.RowKit Go.Proofs.YtjchngehbngghaaW.PrintWords Go.Proofs.YtjchngehbngghaaW.PrintLast Go.Proofs.YtjchngehbngghaaW.PrintMore Go.Shelf Go.Proofs.Ytjchngehbngghaa.PStrip Go.Proofs.Ytjchngehbngghaa.PMoves Go.Maps Go.Joins
set_option linter.unusedVariables false
set_option linter.unusedSimpArgs false

def xr (out : List Int) (n a : Int) : Int := Go.bits .xor .i64 (rd out a) (rd out (n - a))
/-- The least number, v at least, that S has not; at most d of them looked at. -/
def mexF (S : List Int) : Nat → Int → Int
  | 0, v => v
  | d + 1, v => if v ∈ S then mexF S d (v + 1) else v
def mex (S : List Int) : Int := mexF S 64 0
/-- The values of the strips of 0, 1, .., m. -/
def vs (least : Int) (u : Bool) : Nat → List Int
  | 0 => [0]
  | m + 1 => vs least u m ++ [mex ((mvs least u ((m : Int) + 1) 60 1).map (xr (vs least u m) ((m : Int) + 1)))]
theorem vs_length (least : Int) (u : Bool) : ∀ m, (vs least u m).length = m + 1
  | 0 => rfl
  | m + 1 => by rw [vs, List.length_append, vs_length least u m]; rfl
theorem mexF_eq {S : List Int} {v : Nat} (hin : ∀ j : Nat, j < v → (j : Int) ∈ S) (hout : (v : Int) ∉ S) : ∀ (d w : Nat), w ≤ v → v - w ≤ d → mexF S d (w : Int) = v
  | 0, w, h1, h2 => by rw [mexF]; omega
  | d + 1, w, h1, h2 => by
    rw [mexF]
    by_cases e : w = v
    · rw [e, if_neg hout]
    · rw [if_pos (hin w (by omega)), show (w : Int) + 1 = ((w + 1 : Nat) : Int) by omega]
      exact mexF_eq hin hout d (w + 1) (by omega) (by omega)
theorem mex_eq {S : List Int} {v : Nat} (hin : ∀ j : Nat, j < v → (j : Int) ∈ S) (hout : (v : Int) ∉ S) (h : v ≤ 64) : mex S = v := mexF_eq hin hout 64 0 (by omega) (by omega)
theorem pigeon : ∀ (d : Nat) (S : List Int), (∀ j : Nat, j < d → (j : Int) ∈ S) → d ≤ S.length
  | 0, _, _ => Nat.zero_le _
  | d + 1, S, h => by
    have h1 := pigeon d (S.filter (fun x => decide (x ≠ (d : Int)))) (fun j hj => by
      rw [List.mem_filter]
      exact ⟨h j (by omega), by simp; omega⟩)
    have h2 : (S.filter (fun x => decide (x ≠ (d : Int)))).length < S.length := List.length_filter_lt_length_iff_exists.2 ⟨(d : Int), h d (by omega), by simp⟩
    omega

def impl_rule_values.f (k : Nat) (a0_0 : Int) (a0_1 : Bool) (a1 : Int) : Option (List Int) := if 0 ≤ a1 ∧ a1 ≤ 60 then some (vs a0_0 a0_1 a1.toNat) else none
theorem impl_rule_values.mono : ∀ a0 a1 a2 k, LeO (impl_rule_values.f k a0 a1 a2) (impl_rule_values.f (k + 1) a0 a1 a2) := fun _ _ _ _ => LeO.refl _

set_option maxHeartbeats 8000000 in
set_option maxRecDepth 100000 in
theorem impl_rule_values.calls (k : Nat) (a0_0 : Int) (a0_1 : Bool) (a1 : Int) (r : List Int) (w : World) (h : impl_rule_values.f k a0_0 a0_1 a1 = some r) :
    Calls Try.prog 43 #[.agg #[.int .i64 a0_0, .bool a0_1], .int .i64 a1] w fun e w' => ∃ v0_ : Value, e = .returned (v0_) ∧ Kd.R (Kd.int .i64) 3 w' w.heap.size (fun _ => True) v0_ r ∧ Below w.heap.size w w' := by
  have hu47 := Try.underlying47
  unfold impl_rule_values.f at h
  by_cases hr : 0 ≤ a1 ∧ a1 ≤ 60
  · rw [if_pos hr] at h
    injection h with h
    have HRES := Aside0.mk h
    clear h
    obtain ⟨M, hM⟩ : ∃ M : Nat, a1 = (M : Int) := ⟨a1.toNat, by omega⟩
    subst hM
    rw [Int.toNat_natCast] at HRES
    have hM60 : M ≤ 60 := by omega
    have hmm := @run_makeMap Try.prog
    have hmv : ∀ n : Int, 1 ≤ n → n ≤ 60 → ∃ k, impl_rule_moves.f k a0_0 a0_1 n = some (mvs a0_0 a0_1 n 60 1) := fun n h1 h2 => by
      obtain ⟨K, hK⟩ := moves_ev a0_0 a0_1 n ⟨h1, h2⟩
      exact ⟨K, hK K (Nat.le_refl _)⟩
    have HMV := Aside0.mk hmv
    clear hmv
    have HBX : Aside0 ((w.alloc (.cells #[.int .i64 a0_0, .bool a0_1] 47)).heap[w.heap.size]? = some (.cells #[.int .i64 a0_0, .bool a0_1] 47 (0, 0))) := ⟨blk_new w _⟩
    go_enter Try.func43, Try.ntmps43
    go_wp2_with (first | ((with_reducible refine gate_dst (N := 11) rfl ?_); refine Kd.R_lit (Kd.int .i64) _ 3 ?hg (N := 11) ?hd (xs := ([0] : List Int)) (inner := [.int .i64 0]) (ok := fun _ => True) (okp := fun _ => True) ?hr ?hp (fun _ hk => hk) trivial (Below.refl _ _) (Nat.le_refl _) (by simp) ?_; (case hd => rfl); (case hg => rfl); (case hr => first | (go_simp; done) | (go_simp; rfl)); (case hp => exact (Reps.one (show Kd.M (Kd.int .i64) _ _ _ 0 [.int .i64 0] from rfl) (Reps.none _ _))); intro v1 w1 ho1 hb1 hg_ hnew_; clear hg_ hnew_; have HO1 := Aside0.mk ho1; have HB1 := Aside0.mk hb1; clear ho1 hb1))
    go_loopg [5, 6] M (fun gg s5 s6 wr => ∃ m : Nat, m ≤ M ∧ M - m ≤ gg ∧ s6 = .int .i64 ((m : Int) + 1) ∧ Aside0 (Kd.R (Kd.int .i64) 3 wr w.heap.size (fun _ => True) s5 (vs a0_0 a0_1 m)) ∧ Aside0 (wr.heap[w.heap.size]? = some (.cells #[.int .i64 a0_0, .bool a0_1] 47 (0, 0))) ∧ Aside0 (Below w.heap.size w wr))
    case atStart =>
      refine ⟨0, Nat.zero_le _, by omega, rfl, ⟨?_⟩, ⟨blk_below HBX.out HB1.out⟩, ⟨below_then (below_alloc (Below.refl _ _) _) (by simp) HB1.out⟩⟩
      exact Kd.R_lower HO1.out (by simp)
    case round =>
      obtain ⟨m, hm, hgg, rfl, HO, BK, HB⟩ := hrel
      have hlen0 := vs_length a0_0 a0_1 m
      have HLEN : Aside0 (((vs a0_0 a0_1 m).length : Int) = (m : Int) + 1) := ⟨by omega⟩
      clear hlen0
      by_cases hlt : m < M
      · have hltz : ((m : Int) + 1) ≤ (M : Int) := by omega
        have hx0 : wr.cell? ⟨w.heap.size, 0, none⟩ = some (.int .i64 a0_0) := (blk_cell BK.out 0).trans rfl
        have hx1 : wr.cell? ⟨w.heap.size, 1, none⟩ = some (.bool a0_1) := (blk_cell BK.out 1).trans rfl
        have hgl : w.heap.size < wr.heap.size := blk_lt BK.out
        obtain ⟨K, hK⟩ := HMV.out ((m : Int) + 1) (by omega) (by omega)
        have hcall := fun w => impl_rule_moves.calls K a0_0 a0_1 ((m : Int) + 1) _ w hK
        have hmem : ∀ a ∈ mvs a0_0 a0_1 ((m : Int) + 1) 60 1, 1 ≤ a ∧ 2 * a ≤ (m : Int) + 1 := fun a ha => mvs_mem _ _ _ ha
        have hml : (mvs a0_0 a0_1 ((m : Int) + 1) 60 1).length ≤ 60 := mvs_length _ _
        have HNX : Aside0 (vs a0_0 a0_1 (m + 1) = vs a0_0 a0_1 m ++ [mex ((mvs a0_0 a0_1 ((m : Int) + 1) 60 1).map (xr (vs a0_0 a0_1 m) ((m : Int) + 1)))]) := ⟨rfl⟩
        clear hK
        generalize mvs a0_0 a0_1 ((m : Int) + 1) 60 1 = ms at hcall hmem hml HNX
        generalize vs a0_0 a0_1 m = out at HO HLEN HNX
        obtain ⟨Ao, co, eo⟩ := Kd.R_slice HO.out
        subst eo
        go_wp2_with (first | (go_at_call 41; refine (hcall _).mono ?_; rintro e w2 ⟨v2, rfl, hr2, hb2⟩; obtain ⟨A2, c2, eo2⟩ := Kd.R_slice hr2; subst eo2; have HR2 := Aside0.mk hr2; have HB2 := Aside0.mk hb2; clear hr2 hb2))
        clear hcall hx0 hx1
        have HO2 := Aside0.mk (Kd.R_below (Kd.R_alloc HO.out (.map #[] 0)) HB2.out)
        have hobm : ∀ k, (Value.slice Ao out.length co).ownBlock = some k → k ≠ wr.heap.size := fun k hk => by have := Kd.R_lt HO.out k hk; omega
        have hmbm : ∀ k, (Value.slice A2 ms.length c2).ownBlock = some k → k ≠ wr.heap.size := fun k hk => by have := Kd.R_base HR2.out k hk; simp at this; omega
        have BK2 := Aside0.mk (blk_below (blk_alloc BK.out (.map #[] 0)) HB2.out)
        have HS2 := Aside0.mk ((Seen.Holds.made wr).kept (grown_of_below HB2.out none) (by simp))
        have HBW2 := Aside0.mk (below_then (HB.out.alloc (Nat.le_of_lt hgl) (.map #[] 0)) (by simp; omega) HB2.out)
        obtain ⟨wo, hwo⟩ : ∃ wo, wo = wr := ⟨_, rfl⟩
        subst hwo
        go_loopg [22] ms.length (fun gg s22 wq => ∃ i : Nat, i ≤ ms.length ∧ ms.length - i ≤ gg ∧ s22 = .int .i64 i ∧ Aside0 (Seen.Holds wq wo.heap.size i ((ms.take i).map (xr out ((m : Int) + 1))).reverse) ∧ Aside0 (w2.grownBy wq (some wo.heap.size)))
        case atStart => exact ⟨0, Nat.zero_le _, by omega, rfl, ⟨HS2.out⟩, ⟨World.grownBy.refl _ _⟩⟩
        case round =>
          obtain ⟨i, hi, hgg2, rfl, HS, HG⟩ := hrel
          have hne : ∀ {v : Value} {xs : List Int}, (∀ k, v.ownBlock = some k → k ≠ wo.heap.size) → ∀ k, some wo.heap.size = some k → some k ≠ v.ownBlock := fun h k hk e => by
            injection hk with hk
            exact h k e.symm hk.symm
          have HOq := Aside0.mk (Kd.R_grown2 HO2.out rfl HG.out (hne (xs := out) hobm))
          have HMq := Aside0.mk (Kd.R_grown2 HR2.out rfl HG.out (hne (xs := ms) hmbm))
          by_cases hlt2 : i < ms.length
          · have hltz2 : (i : Int) < (ms.length : Int) := by omega
            obtain ⟨ad1, e1, hx1⟩ := Kd.at_int (Kd.R_reads' HMq.out).2.2 (i : Int) (by omega) hltz2
            cases e1
            simp only [Int.toNat_natCast] at hx1
            have hma := hmem (rd ms (i : Int)) (by
              have : rd ms (i : Int) = ms[i] := by simp [rd, List.getD_eq_getElem?_getD, hlt2]
              rw [this]; exact List.getElem_mem hlt2)
            have HTK : Aside0 (((ms.take (i + 1)).map (xr out ((m : Int) + 1))).reverse = xr out ((m : Int) + 1) (rd ms (i : Int)) :: ((ms.take i).map (xr out ((m : Int) + 1))).reverse) := ⟨by
              rw [List.take_succ_eq_append_getElem hlt2, List.map_append, List.reverse_append]
              simp [rd, List.getD_eq_getElem?_getD, hlt2]⟩
            obtain ⟨a, ha⟩ : ∃ a, rd ms (i : Int) = a := ⟨_, rfl⟩
            rw [ha] at hx1 hma HTK
            clear ha
            have hlen := HLEN.out
            have p2 : 0 ≤ a := by omega
            have q2 : a < (out.length : Int) := by omega
            have p3 : 0 ≤ (m : Int) + 1 - a := by omega
            have q3 : (m : Int) + 1 - a < (out.length : Int) := by omega
            obtain ⟨ad2, e2, hx2⟩ := Kd.at_int (Kd.R_reads' HOq.out).2.2 a p2 q2
            cases e2
            obtain ⟨jj, hjj⟩ : ∃ jj, (m : Int) + 1 - a = jj := ⟨_, rfl⟩
            have hwr : (IntKind.i64.wrap ((m : Int) + 1 - a)) = jj := ((i64_w _).trans (PEv.wrap_in (by omega) (by omega))).trans hjj
            rw [hjj] at p3 q3
            have HXR : Aside0 (xr out ((m : Int) + 1) a = Go.bits .xor .i64 (rd out a) (rd out jj)) := ⟨by unfold xr; rw [hjj]⟩
            rw [HXR.out] at HTK
            obtain ⟨ad3, e3, hx3⟩ := Kd.at_int (Kd.R_reads' HOq.out).2.2 jj p3 q3
            obtain rfl : ad2 = ad3 := by injection e3
            clear hlen hjj
            go_wp2
            go_still_tail 12, (by kernel_rfl)
            change wpList _ _ _ _ _ wr.drew
            have HSd : Seen.Holds wr.drew wo.heap.size i ((ms.take i).map (xr out ((m : Int) + 1))).reverse := HS.out
            refine Seen.at_store wr.drew rfl (.tmp 26) (.tmp 37) (.const (.bool true)) rfl wo.heap.size i _ HSd (by unfold maxLen; omega) rfl (Go.bits .xor .i64 (rd out a) (rd out jj)) (wf_bits _ _ _ _) rfl rfl ?_
            intro w3 hs3 hg3
            have HS3 := Aside0.mk hs3
            have HG3 : Aside0 (wr.grownBy w3 (some wo.heap.size)) := ⟨⟨hg3.os, hg3.tape, hg3.output, hg3.size, hg3.block⟩⟩
            clear hs3 hg3
            go_wp2
            go_roundg (ms.length - (i + 1))
            case measure => omega
            case rel => exact ⟨i + 1, by omega, by omega, by go_num, ⟨by rw [HTK.out]; exact HS3.out⟩, ⟨World.grownBy.trans HG.out HG3.out⟩⟩
          · have hltz2 : ¬ (i : Int) < (ms.length : Int) := by omega
            obtain rfl : i = ms.length := by omega
            rw [List.take_length] at HS
            go_wp2
            obtain ⟨L, hL⟩ : ∃ L, (ms.map (xr out ((m : Int) + 1))).reverse = L := ⟨_, rfl⟩
            rw [hL] at HS
            have hLl : L.length ≤ 60 := by rw [← hL, List.length_reverse, List.length_map]; exact hml
            have HLM : Aside0 (∀ x, x ∈ L ↔ x ∈ ms.map (xr out ((m : Int) + 1))) := ⟨fun x => by rw [← hL, List.mem_reverse]⟩
            clear hL
            obtain ⟨wl, hwl⟩ : ∃ wl, wl = wr := ⟨_, rfl⟩
            subst hwl
            have hbm : wo.heap.size < wl.heap.size := HS.out.lt
            go_loopg [10] (L.length + 1) (fun gg s10 wq => ∃ v : Nat, v ≤ L.length ∧ L.length + 1 - v ≤ gg ∧ s10 = .int .i64 v ∧ wq = wl ∧ Aside0 (∀ j : Nat, j < v → (j : Int) ∈ L))
            case atStart => exact ⟨0, Nat.zero_le _, by omega, rfl, rfl, ⟨fun j hj => absurd hj (Nat.not_lt_zero _)⟩⟩
            case round =>
              obtain ⟨v, hv, hgg3, rfl, rfl, HV⟩ := hrel
              by_cases hin : (v : Int) ∈ L
              · have hlt3 : v + 1 ≤ L.length := pigeon (v + 1) L (fun j hj => by
                  by_cases e : j = v
                  · rw [e]; exact hin
                  · exact HV.out j (by omega))
                have HIN := Aside0.mk hin
                clear hin
                go_wp2_with (at_lookup; refine Seen.at_look _ rfl _ _ rfl wo.heap.size ms.length L HS.out rfl (v : Int) (WalkArith.wf_i64 (by omega)) rfl ?_; rw [decide_eq_true HIN.out])
                go_roundg (L.length + 1 - (v + 1))
                case measure => omega
                case rel =>
                  refine ⟨v + 1, by omega, by omega, by go_num, rfl, ⟨fun j hj => ?_⟩⟩
                  by_cases e : j = v
                  · rw [e]; exact HIN.out
                  · exact HV.out j (by omega)
              · have HIN := Aside0.mk hin
                clear hin
                have HMEX : Aside0 (mex (ms.map (xr out ((m : Int) + 1))) = v) := ⟨mex_eq (fun j hj => (HLM.out _).1 (HV.out j hj)) (fun h => HIN.out ((HLM.out _).2 h)) (by omega)⟩
                have hlen := HLEN.out
                have hroom : Aside0 (out.length < 17592186044416) := ⟨by omega⟩
                clear hlen
                have HBq := Aside0.mk (Below.grown HBW2.out HG.out (by have := HBW2.out.size; omega) (fun k hk => by injection hk with hk; omega))
                have BKq := Aside0.mk (blk_grown BK2.out HG.out (by simp; omega))
                have hwsz : w.heap.size ≤ wr.heap.size := HBq.out.size
                go_wp2_with (first
                  | (at_lookup; refine Seen.at_look _ rfl _ _ rfl wo.heap.size ms.length L HS.out rfl (v : Int) (WalkArith.wf_i64 (by omega)) rfl ?_; rw [decide_eq_false HIN.out])
                  | ((with_reducible refine gate_builtin (b := .append) (xs := #[.tmp 44, .tmp 46]) rfl ?_); at_builtin; refine Kd.R_append (Kd.int .i64) (w0 := w) w.heap.size rfl (.tmp 44) (.tmp 46) 25 3 (.int .i64 0) 8 rfl Try.underlying25 info3 rfl (by decide) (by omega) (.slice Ao out.length co) out (v : Int) [.int .i64 (v : Int)] (fun _ => True) (fun _ => False) rfl rfl ?aP (fun _ hk => hk.elim) ?aF ?aO ?aB ?aS ?aL ?_; (case aP => exact rfl); (case aB => exact (by repeat (first | (with_reducible first | exact HBq.out | apply below_alloc | apply pw_below_drewN | apply below_drew1) | exact HBq.out))); (case aF => exact (fun _ _ => trivial)); (case aO => exact (by (with_reducible repeat (first | apply Kd.R_alloc | apply Kd.R_drewN | apply Kd.R_drew)); exact HOq.out)); (case aS => exact (below_size (by repeat (first | (with_reducible first | exact HBq.out | apply below_alloc | apply pw_below_drewN | apply below_drew1) | exact HBq.out)))); (case aL => have := hroom.out; omega); intro v9 w9 ho hb hg hat; have HO9 := Aside0.mk ho; have HB9 := Aside0.mk hb; have BK9 := Aside0.mk (blk_grown (g := w.heap.size) (o := .cells #[.int .i64 a0_0, .bool a0_1] 47 (0, 0)) (by (with_reducible repeat (first | refine blk_drewN ?_ _ | refine blk_drew ?_ | refine blk_alloc ?_ _)); exact BKq.out) hg (Kd.R_ne HOq.out BKq.out (by decide))); clear ho hb hg hat))
                go_roundg (M - (m + 1))
                case measure => omega
                case rel =>
                  refine ⟨m + 1, by omega, by omega, by go_num, ⟨?_⟩, BK9, HB9⟩
                  rw [HNX.out, HMEX.out]
                  exact HO9.out
      · obtain rfl : m = M := by omega
        have hltz : ¬ ((m : Int) + 1) ≤ (m : Int) := by omega
        rw [HRES.out] at HO
        go_wp2
        go_ret
        exact ⟨_, rfl, HO.out, HB.out⟩
  · rw [if_neg hr] at h
    cases h
end Go.Proofs.Ytjchngehbngghaa.All
