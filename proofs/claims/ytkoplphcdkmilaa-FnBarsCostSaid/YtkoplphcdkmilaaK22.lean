/- Texts of this claim joined, in the order in which they build: GIns, GMergeL, GMergeG, GStab. -/
import Derived.Deep.Cut
import Derived.Test.YtkoplphcdkmilaaK21
section
namespace Go.Proofs.Ytkoplphcdkmilaa.All
open Go.Shelf Go.Lib Go.Sort Go.RowKit Go.Proofs.YtkoplphcdkmilaaW.PrintWords Go.Proofs.YtkoplphcdkmilaaW.PrintLast Go.Proofs.YtkoplphcdkmilaaW.PrintMore GSteps
set_option linter.unusedVariables false
set_option linter.unusedSimpArgs false

def Inc (d : Array Nat) (a b : Nat) : Prop := ∀ i j, a ≤ i → i < j → j < b → d[i]! < d[j]!

theorem inc_older {d dk : Array Nat} {a b i : Nat} (h : Inc d a b) (hp : PermIn a i d dk) (hi : i < b) (hb : b ≤ d.size) : ∀ k, a ≤ k → k < i → dk[k]! < dk[i]! := fun k h1 h2 => by
  obtain ⟨q, q1, q2, e⟩ := permIn_mem hp (by omega) k h1 h2
  rw [e, permIn_out hp i (by omega)]
  exact h q i q1 q2 hi

set_option maxHeartbeats 16000000 in
set_option maxRecDepth 100000 in
theorem insertion_any (enc : Nat → Value) (cst : Nat → Int) (g : Nat) (cb : Array Value) (blk off cap a b : Nat) (d0 d : Array Nat) (w0 w : World)
    (eg : ∀ args w, (callFunc g args).run Try.prog w = .ok (.enter g args) w) (hcmp : CmpLays1 Try.prog g cb enc (fun x y => cst y - cst x) blk off d0.size w0) (R : Row1 enc w0 blk off d0) (hs : d0.size = d.size) (S : SW enc w0 blk off d w)
    (hab : a ≤ b) (hb : b ≤ d.size) (hsz : d.size ≤ 4096) (hinc : Inc d a b) :
    Calls Try.prog 74 #[.slice (some ⟨blk, off, none⟩) d.size cap, .int .i64 a, .int .i64 b, .func (.func g) #[] cb] w fun e w' => e = .returned (.tuple #[]) ∧ ∃ d', Merged cst d d' a b ∧ SW enc w0 blk off d' w' := by
  have mixed : Try.prog.follows .mixedOrders = true := by kernel_rfl
  have hcl0 := R.hO.cells
  simp only [Value.cells] at hcl0
  have hst := R.hO.store Try.prog
  have HC : Aside _ := hcmp
  have HI : Aside _ := hinc
  have S0 : Aside (SW enc w0 blk off d w) := S
  clear S hcmp hinc
  go_enter Try.func74, Try.ntmps74
  go_wp2
  go_loopg [8] (b - a) (fun g1 vi wr => ∃ (i : Nat) (dk : Array Nat), vi = .int .i64 i ∧ a + 1 ≤ i ∧ i ≤ b + 1 ∧ b - i ≤ g1 ∧ (i = b + 1 → a = b) ∧ Aside (PermIn a (min i b) d dk) ∧ Aside (SortedIn cst dk a (min i b)) ∧ Aside (SW enc w0 blk off dk wr))
  case atStart => exact ⟨a + 1, d, by first | rfl | go_num, by omega, by omega, by omega, by omega, permIn_refl _ _ _, (fun p q u v z => by omega), S0⟩
  case round =>
    clear S0
    obtain ⟨i, dk, rfl, hai, hib, hg1, hib2, PM, SO, S1⟩ := hrel
    by_cases hlt : i < b
    · have hltz : (i : Int) < (b : Int) := by omega
      have PM' : Aside (PermIn a i d dk) := by have h := PM.out; rw [show min i b = i by omega] at h; exact h
      have SO' : Aside (SortedIn cst dk a i) := by have h := SO.out; rw [show min i b = i by omega] at h; exact h
      clear PM SO
      have hsk : dk.size = d.size := PM'.out.1
      have OL : Aside _ := inc_older HI.out PM'.out hlt hb
      go_wp2
      go_loopg [9] (i - a) (fun g2 vj wr2 => ∃ (j : Nat) (dj : Array Nat), vj = .int .i64 j ∧ a ≤ j ∧ j ≤ i ∧ j - a ≤ g2 ∧ Aside (RotP dk dj j i (i + 1)) ∧ Aside (∀ k, j ≤ k → k < i → mlt cst dk[i]! dk[k]!) ∧ Aside (SW enc w0 blk off dj wr2))
      case atStart => exact ⟨i, dk, rfl, by omega, Nat.le_refl _, by omega, rot_self (.inl rfl), (fun k p q => by omega), S1⟩
      case round =>
        clear S1
        obtain ⟨j, dj, rfl, haj, hji, hg2, RP, HL, SJ⟩ := hrel
        have hsj : dj.size = d.size := by rw [RP.out.1]; exact hsk
        have out : (j ≤ a ∨ mlt cst dk[j - 1]! dk[i]!) → PermIn a (i + 1) d dj ∧ SortedIn cst dj a (i + 1) := fun h => by
          obtain ⟨h1, h2⟩ := one_left (cst := cst) haj hji (by omega) SO'.out (fun k p q => by
            rcases h with h | h
            · omega
            · by_cases e : k = j - 1
              · rw [e]; exact h
              · exact mlt_trans (SO'.out k (j - 1) p (by omega) (by omega)) h) HL.out RP.out
          exact ⟨permIn_trans _ _ _ _ _ (permIn_mono _ _ a i a (i + 1) (by omega) (by omega) (by omega) PM'.out) h1, h2⟩
        have OUT : Aside _ := out
        clear out
        by_cases hja : a < j
        · obtain ⟨j, rfl⟩ : ∃ q, j = q + 1 := ⟨j - 1, by omega⟩
          have hjaz : (a : Int) < (j : Int) + 1 := by omega
          have hjad : decide ((j : Int) + 1 > (a : Int)) = true := decide_eq_true (by omega)
          have pi0 : (0 : Int) ≤ (j : Int) := by omega
          have pj0 : (0 : Int) ≤ (j : Int) + 1 := by omega
          have pi1 : (j : Int) < (d.size : Int) := by omega
          have pj1 : (j : Int) + 1 < (d.size : Int) := by omega
          have rj : IntKind.i64.wrap ((j : Int) + 1) = (j : Int) + 1 := by rw [IntKind.wrap_i64]; omega
          have wj : IntKind.i64.wrap (j : Int) = (j : Int) := by rw [IntKind.wrap_i64]; omega
          have ti : ((j : Int)).toNat = j := by omega
          have tj : ((j : Int) + 1).toNat = j + 1 := by omega
          obtain ⟨x, hx⟩ : ∃ x, x = dj[j + 1]! := ⟨_, rfl⟩
          obtain ⟨y, hy⟩ : ∃ x, x = dj[j]! := ⟨_, rfl⟩
          have l1 := SJ.out.cl R (by omega) (j + 1) (by omega)
          have l2 := SJ.out.cl R (by omega) j (by omega)
          rw [← hx] at l1
          rw [← hy] at l2
          have hc := SJ.out.cmp HC.out (by omega) x y
          have ex : x = dk[i]! := by rw [hx, RP.out.2.2.1 (j + 1) (by omega) (by omega)]; exact get_eq dk (by omega)
          have ey : y = dk[j]! := by rw [hy, RP.out.2.1 j (by omega)]
          have hyx : y < x := by rw [ex, ey]; exact OL.out j (by omega) (by omega)
          have hv := cmp_lt (cst := cst) hyx
          cases hd : decide (cst y - cst x < 0) with
          | true =>
            have hm : mlt cst dk[i]! dk[j]! := by rw [← ex, ← ey]; exact hv.mp (of_decide_eq_true hd)
            have N2 : Aside (∀ k, j ≤ k → k < i → mlt cst dk[i]! dk[k]!) := fun k p q => by
              by_cases e : k = j
              · rw [e]; exact hm
              · exact HL.out k (by omega) q
            have hv1 : cst y - cst x < 0 := of_decide_eq_true hd
            have HX : Aside (x = dj[j + 1]!) := hx
            have HY : Aside (y = dj[j]!) := hy
            clear hv hm hyx ex ey hx hy
            go_wp2_with fail
            go_quiet_grown (first | (go_at_fn g; refine Calls.grown_of (hc _ _)))
            have S2 : Aside (SW enc w0 blk off dj (grow (wr.drewN nq) osq)) := SJ.out.grown nq osq
            clear l1 l2 hc SJ
            generalize grow (wr.drewN nq) osq = w2 at S2 ⊢
            clear nq osq
            have S3 : Aside (SW enc w0 blk off (swp dj (j + 1) j) ((w2.setCell ⟨blk, off + (j + 1), none⟩ (enc y)).setCell ⟨blk, off + j, none⟩ (enc x)).drew) := by rw [HX.out, HY.out]; exact S2.out.swapped R (j + 1) j (by omega) (by omega)
            have c1a := S2.out.c1 R (by omega) (j + 1) (by omega)
            have c1b := S2.out.c1 R (by omega) j (by omega)
            have f1a := S2.out.f1 R (by omega) (j + 1) (by omega)
            have f1b := S2.out.f1 R (by omega) j (by omega)
            obtain ⟨u, c1c⟩ := S2.out.c2 R (by omega) (j + 1) j (by omega) (by omega) (enc y)
            rw [← HX.out] at c1a
            rw [← HY.out] at c1b
            clear S2 HX HY
            go_wp2_with fail
            go_region
            clear c1a c1b c1c f1a f1b
            generalize ((w2.setCell ⟨blk, off + (j + 1), none⟩ (enc y)).setCell ⟨blk, off + j, none⟩ (enc x)).drew = w3 at S3 ⊢
            go_wp2
            go_roundg (j - a)
            case measure => omega
            case rel => exact ⟨j, swp dj (j + 1) j, by first | rfl | go_num | (congr 1; omega), by omega, by omega, Nat.le_refl _, rot_step_left RP.out (by omega) (by omega), N2, S3⟩
          | false =>
            have hm : mlt cst dk[j]! dk[i]! := by rw [← ex, ← ey]; exact mlt_of_not (fun e => (of_decide_eq_false hd) (hv.mpr e)) (by omega)
            have FN : Aside _ := OUT.out (.inr (by rw [show j + 1 - 1 = j by omega]; exact hm))
            have hv1 : ¬ cst y - cst x < 0 := of_decide_eq_false hd
            clear hv hm hx hy hyx ex ey
            go_wp2_with fail
            go_quiet_grown (first | (go_at_fn g; refine Calls.grown_of (hc _ _)))
            have S2 : Aside (SW enc w0 blk off dj (grow (wr.drewN nq) osq)) := SJ.out.grown nq osq
            clear l1 l2 hc SJ
            generalize grow (wr.drewN nq) osq = w2 at S2 ⊢
            clear nq osq
            go_wp2
            go_roundg (b - (i + 1))
            case measure => omega
            case rel => exact ⟨i + 1, dj, by first | rfl | go_num, by omega, by omega, Nat.le_refl _, by omega, (by have h := FN.out.1; rw [show i + 1 = min (i + 1) b by omega] at h; exact h), (by have h := FN.out.2; rw [show i + 1 = min (i + 1) b by omega] at h; exact h), S2⟩
        · have hjad : decide ((j : Int) > (a : Int)) = false := decide_eq_false (by omega)
          have hjaz : ¬ (a : Int) < (j : Int) := by omega
          have FN : Aside _ := OUT.out (.inl (by omega))
          go_wp2_with fail
          go_region
          have S2 : Aside (SW enc w0 blk off dj wr.drew) := SJ.out.drew
          clear SJ
          generalize wr.drew = w2 at S2 ⊢
          go_wp2
          go_roundg (b - (i + 1))
          case measure => omega
          case rel => exact ⟨i + 1, dj, by first | rfl | go_num, by omega, by omega, Nat.le_refl _, by omega, (by have h := FN.out.1; rw [show i + 1 = min (i + 1) b by omega] at h; exact h), (by have h := FN.out.2; rw [show i + 1 = min (i + 1) b by omega] at h; exact h), S2⟩
    · have hltz : ¬ (i : Int) < (b : Int) := by omega
      go_wp2
      go_end0
      exact ⟨rfl, dk, ⟨(by have h := PM.out; rw [show min i b = b by omega] at h; exact h), (by have h := SO.out; rw [show min i b = b by omega] at h; exact h)⟩, S1.out⟩
end Go.Proofs.Ytkoplphcdkmilaa.All
end
section
namespace Go.Proofs.Ytkoplphcdkmilaa.All
open Go.Shelf Go.Lib Go.Sort Go.RowKit Go.Proofs.YtkoplphcdkmilaaW.PrintWords Go.Proofs.YtkoplphcdkmilaaW.PrintLast Go.Proofs.YtkoplphcdkmilaaW.PrintMore GSteps
set_option linter.unusedVariables false
set_option linter.unusedSimpArgs false

set_option maxHeartbeats 16000000 in
set_option maxRecDepth 100000 in
theorem merge_one_left (enc : Nat → Value) (cst : Nat → Int) (g : Nat) (cb : Array Value) (blk off cap a m : Nat) (d0 d : Array Nat) (w0 w : World)
    (eg : ∀ args w, (callFunc g args).run Try.prog w = .ok (.enter g args) w) (hcmp : CmpLays1 Try.prog g cb enc (fun x y => cst y - cst x) blk off d0.size w0) (R : Row1 enc w0 blk off d0) (hs : d0.size = d.size) (S : SW enc w0 blk off d w)
    (hab : a + 1 < m) (hb : m < d.size) (hsz : d.size ≤ 4096) (s1 : SortedIn cst d a m) (ho : Older d a m (m + 1)) :
    Calls Try.prog 75 #[.slice (some ⟨blk, off, none⟩) d.size cap, .int .i64 a, .int .i64 m, .int .i64 ((m : Int) + 1), .func (.func g) #[] cb] w fun e w' => e = .returned (.tuple #[]) ∧ ∃ d', Merged cst d d' a (m + 1) ∧ SW enc w0 blk off d' w' := by
  have mixed : Try.prog.follows .mixedOrders = true := by kernel_rfl
  have hcl0 := R.hO.cells
  simp only [Value.cells] at hcl0
  have hst := R.hO.store Try.prog
  have HC : Aside _ := hcmp
  have S0 : Aside (SW enc w0 blk off d w) := S
  clear S hcmp
  have wm : IntKind.i64.wrap ((m : Int) - (a : Int)) = (m : Int) - (a : Int) := by rw [IntKind.wrap_i64]; omega
  have hd0 : (((m : Int) - (a : Int)) == (1 : Int)) = false := by simp; omega
  have hd1 : ((IntKind.i64.wrap ((m : Int) + 1 - (m : Int))) == (1 : Int)) = true := by rw [IntKind.wrap_i64]; simp; omega
  go_enter Try.func75, Try.ntmps75
  go_wp2
  go_loopg [14, 15] (m - a) (fun g1 vi vj wr => ∃ i j : Nat, vi = .int .i64 i ∧ vj = .int .i64 j ∧ a ≤ i ∧ i ≤ j ∧ j ≤ m ∧ j - i ≤ g1 ∧ Aside (∀ k, a ≤ k → k < i → mlt cst d[k]! d[m]!) ∧ Aside (∀ k, j ≤ k → k < m → mlt cst d[m]! d[k]!) ∧ Aside (SW enc w0 blk off d wr))
  case atStart => exact ⟨a, m, rfl, rfl, by omega, by omega, by omega, by omega, fun k h1 h2 => by omega, fun k h1 h2 => by omega, S0⟩
  case round =>
    clear S0
    obtain ⟨i, j, rfl, rfl, hai, hij, hjb, hg1, L1, L2, S1⟩ := hrel
    by_cases hlt : i < j
    · have hltz : (i : Int) < (j : Int) := by omega
      obtain ⟨h, hh1, hh2, hz⟩ : ∃ h : Nat, i ≤ h ∧ h < j ∧ ((i : Int) + (j : Int)) / 2 = (h : Int) := ⟨(i + j) / 2, by omega, by omega, by omega⟩
      have wu : IntKind.u64.wrap ((i : Int) + (j : Int)) = (i : Int) + (j : Int) := by rw [IntKind.wrap_u64]; omega
      have ba : (m : Int) < (d.size : Int) := by omega
      have bh : (h : Int) < (d.size : Int) := by omega
      have ph : (0 : Int) ≤ (h : Int) := by omega
      have pa : (0 : Int) ≤ (m : Int) := by omega
      have th : ((h : Int)).toNat = h := by omega
      have ta : ((m : Int)).toNat = m := by omega
      obtain ⟨x, hx⟩ : ∃ x, x = d[m]! := ⟨_, rfl⟩
      obtain ⟨y, hy⟩ : ∃ x, x = d[h]! := ⟨_, rfl⟩
      have l1 := S1.out.cl R (by omega) m (by omega)
      have l2 := S1.out.cl R (by omega) h (by omega)
      rw [← hx] at l1
      rw [← hy] at l2
      have hc := S1.out.cmp HC.out (by omega) x y
      have hyx : y < x := by rw [hx, hy]; exact ho h m (by omega) (by omega) (by omega) (by omega)
      have hv := cmp_lt (cst := cst) hyx
      cases hd : decide (cst y - cst x < 0) with
      | true =>
        have hm : mlt cst d[m]! d[h]! := by rw [← hx, ← hy]; exact hv.mp (of_decide_eq_true hd)
        have N2 : Aside (∀ k, h ≤ k → k < m → mlt cst d[m]! d[k]!) := fun k p q => by
          by_cases e : k = h
          · rw [e]; exact hm
          · exact mlt_trans hm (s1 h k (by omega) (by omega) q)
        have hv1 : cst y - cst x < 0 := of_decide_eq_true hd
        clear hv hm hx hy hyx
        go_wp2_with fail
        go_quiet_grown (first | (go_at_fn g; refine Calls.grown_of (hc _ _)))
        have S2 : Aside (SW enc w0 blk off d (grow (wr.drewN nq) osq)) := S1.out.grown nq osq
        clear l1 l2 hc S1
        generalize grow (wr.drewN nq) osq = w2 at S2 ⊢
        clear nq osq
        go_wp2
        go_roundg (h - i)
        case measure => omega
        case rel => exact ⟨i, h, rfl, rfl, hai, hh1, by omega, Nat.le_refl _, L1, N2, S2⟩
      | false =>
        have hm : mlt cst d[h]! d[m]! := by rw [← hx, ← hy]; exact mlt_of_not (fun e => (of_decide_eq_false hd) (hv.mpr e)) (by omega)
        have N1 : Aside (∀ k, a ≤ k → k < h + 1 → mlt cst d[k]! d[m]!) := fun k p q => by
          by_cases e : k = h
          · rw [e]; exact hm
          · exact mlt_trans (s1 k h p (by omega) (by omega)) hm
        have hv1 : ¬ cst y - cst x < 0 := of_decide_eq_false hd
        clear hv hm hx hy hyx
        go_wp2_with fail
        go_quiet_grown (first | (go_at_fn g; refine Calls.grown_of (hc _ _)))
        have S2 : Aside (SW enc w0 blk off d (grow (wr.drewN nq) osq)) := S1.out.grown nq osq
        clear l1 l2 hc S1
        generalize grow (wr.drewN nq) osq = w2 at S2 ⊢
        clear nq osq
        go_wp2
        go_roundg (j - (h + 1))
        case measure => omega
        case rel => exact ⟨h + 1, j, by first | rfl | go_num, rfl, by omega, by omega, hjb, Nat.le_refl _, N1, L2, S2⟩
    · have hltz : ¬ (i : Int) < (j : Int) := by omega
      obtain rfl : i = j := by omega
      go_wp2
      go_loopg [17] (m - i) (fun g1 vk wr => ∃ (k : Nat) (dk : Array Nat), vk = .int .i64 k ∧ i ≤ k ∧ k ≤ m ∧ k - i ≤ g1 ∧ Aside (RotP d dk k m (m + 1)) ∧ Aside (SW enc w0 blk off dk wr))
      case atStart => exact ⟨m, d, rfl, by omega, by omega, by omega, rot_self (.inl rfl), S1⟩
      case round =>
        clear S1
        obtain ⟨k, dk, rfl, hak, hki, hg1, RP, S1⟩ := hrel
        have hsk : dk.size = d.size := RP.out.1
        by_cases hlt : i < k
        · obtain ⟨k, rfl⟩ : ∃ q, k = q + 1 := ⟨k - 1, by omega⟩
          have hltz : (i : Int) < (k : Int) + 1 := by omega
          have pi0 : (0 : Int) ≤ (k : Int) := by omega
          have pj0 : (0 : Int) ≤ (k : Int) + 1 := by omega
          have pi1 : (k : Int) < (d.size : Int) := by omega
          have pj1 : (k : Int) + 1 < (d.size : Int) := by omega
          have rj : IntKind.i64.wrap ((k : Int) + 1) = (k : Int) + 1 := by rw [IntKind.wrap_i64]; omega
          have ti : ((k : Int)).toNat = k := by omega
          have tj : ((k : Int) + 1).toNat = k + 1 := by omega
          obtain ⟨x, hx⟩ : ∃ x, x = dk[k + 1]! := ⟨_, rfl⟩
          obtain ⟨y, hy⟩ : ∃ x, x = dk[k]! := ⟨_, rfl⟩
          have S3 : Aside (SW enc w0 blk off (swp dk (k + 1) k) ((wr.setCell ⟨blk, off + (k + 1), none⟩ (enc y)).setCell ⟨blk, off + k, none⟩ (enc x)).drew) := by rw [hx, hy]; exact S1.out.swapped R (k + 1) k (by omega) (by omega)
          have c1a := S1.out.c1 R (by omega) (k + 1) (by omega)
          have c1b := S1.out.c1 R (by omega) k (by omega)
          have f1a := S1.out.f1 R (by omega) (k + 1) (by omega)
          have f1b := S1.out.f1 R (by omega) k (by omega)
          obtain ⟨u, c1c⟩ := S1.out.c2 R (by omega) (k + 1) k (by omega) (by omega) (enc y)
          rw [← hx] at c1a
          rw [← hy] at c1b
          clear S1 hx hy
          go_wp2
          go_region
          clear c1a c1b c1c f1a f1b
          generalize ((wr.setCell ⟨blk, off + (k + 1), none⟩ (enc y)).setCell ⟨blk, off + k, none⟩ (enc x)).drew = w3 at S3 ⊢
          go_wp2
          go_roundg (k - i)
          case measure => omega
          case rel => exact ⟨k, swp dk (k + 1) k, by first | rfl | go_num | (congr 1; omega), by omega, by omega, by omega, rot_step_left RP.out (by omega) (by omega), S3⟩
        · have hltz : ¬ (i : Int) < (k : Int) := by omega
          obtain rfl : i = k := by omega
          go_wp2
          refine bodyPost_ret (results_none rfl _ _ _) rfl ?_
          exact ⟨rfl, dk, one_left (by omega) hjb hb s1 L1.out L2.out RP.out, S1.out⟩
end Go.Proofs.Ytkoplphcdkmilaa.All
end
section
namespace Go.Proofs.Ytkoplphcdkmilaa.All
open Go.Shelf Go.Lib Go.Sort Go.RowKit Go.Proofs.YtkoplphcdkmilaaW.PrintWords Go.Proofs.YtkoplphcdkmilaaW.PrintLast Go.Proofs.YtkoplphcdkmilaaW.PrintMore GSteps
set_option linter.unusedVariables false
set_option linter.unusedSimpArgs false

theorem cross_of {cst : Nat → Int} {d : Array Nat} {a m b st st0 r0 mid en : Nat} (s1 : SortedIn cst d a m) (s2 : SortedIn cst d m b) (h1 : st0 ≤ st) (h2 : st ≤ r0) (he : en + st = mid + m)
    (hH : ∀ c, st0 ≤ c → c < r0 → a ≤ c ∧ c < m ∧ m + c < mid + m ∧ mid + m ≤ b + c) (h0 : st0 = a ∨ st0 + b = mid + m) (h3 : r0 = m ∨ r0 = mid)
    (q1 : ∀ c, st0 ≤ c → c < st → mlt cst d[c]! d[mid + m - 1 - c]!) (q2 : ∀ c, st ≤ c → c < r0 → mlt cst d[mid + m - 1 - c]! d[c]!) :
    (∀ i j, a ≤ i → i < st → en ≤ j → j < b → mlt cst d[i]! d[j]!) ∧ (∀ i j, m ≤ i → i < en → st ≤ j → j < m → mlt cst d[i]! d[j]!) := by
  refine ⟨fun i j p q r t => ?_, fun i j p q r t => ?_⟩
  · have hst : st0 < st := by omega
    have e := hH (st - 1) (by omega) (by omega)
    have k := q1 (st - 1) (by omega) (by omega)
    rw [get_eq d (show mid + m - 1 - (st - 1) = en by omega)] at k
    have k1 : mlt cst d[i]! d[en]! := by
      by_cases e1 : i = st - 1
      · rw [e1]; exact k
      · exact mlt_trans (s1 i (st - 1) p (by omega) (by omega)) k
    by_cases e2 : j = en
    · rw [e2]; exact k1
    · exact mlt_trans k1 (s2 en j (by omega) (by omega) t)
  · have hst : st < r0 := by omega
    have e := hH st (by omega) (by omega)
    have k := q2 st (by omega) (by omega)
    rw [get_eq d (show mid + m - 1 - st = en - 1 by omega)] at k
    have k1 : mlt cst d[i]! d[st]! := by
      by_cases e1 : i = en - 1
      · rw [e1]; exact k
      · exact mlt_trans (s2 i (en - 1) p (by omega) (by omega)) k
    by_cases e2 : j = st
    · rw [e2]; exact k1
    · exact mlt_trans k1 (s1 st j (by omega) (by omega) t)

set_option maxHeartbeats 16000000 in
set_option maxRecDepth 100000 in
theorem merge_any (enc : Nat → Value) (cst : Nat → Int) (g : Nat) (cb : Array Value) (blk off cap : Nat) (d0 : Array Nat) (w0 : World)
    (eg : ∀ args w, (callFunc g args).run Try.prog w = .ok (.enter g args) w) (hcmp : CmpLays1 Try.prog g cb enc (fun x y => cst y - cst x) blk off d0.size w0) (R : Row1 enc w0 blk off d0) (hsz : d0.size ≤ 4096) :
    ∀ (N a m b : Nat) (d : Array Nat) (w : World), b - a ≤ N → d0.size = d.size → SW enc w0 blk off d w → a < m → m < b → b ≤ d.size → SortedIn cst d a m → SortedIn cst d m b → Older d a m b →
    Calls Try.prog 75 #[.slice (some ⟨blk, off, none⟩) d.size cap, .int .i64 a, .int .i64 m, .int .i64 b, .func (.func g) #[] cb] w fun e w' => e = .returned (.tuple #[]) ∧ ∃ d', Merged cst d d' a b ∧ SW enc w0 blk off d' w' := by
  intro N
  induction N with
  | zero => intro a m b d w h; omega
  | succ N ih =>
    intro a m b d w hN hs S ham hmb hb s1 s2 ho
    by_cases e1 : m = a + 1
    · subst e1
      have h := merge_one_right enc cst g cb blk off cap a b d0 d w0 w eg hcmp R hs S hmb hb (by omega) s2 ho
      rw [show ((a + 1 : Nat) : Int) = (a : Int) + 1 by omega]
      exact h
    by_cases e2 : b = m + 1
    · subst e2
      have h := merge_one_left enc cst g cb blk off cap a m d0 d w0 w eg hcmp R hs S (by omega) (by omega) (by omega) s1 ho
      rw [show ((m + 1 : Nat) : Int) = (m : Int) + 1 by omega]
      exact h
    have mixed : Try.prog.follows .mixedOrders = true := by kernel_rfl
    have HC : Aside _ := hcmp
    have IH : Aside _ := ih
    have S0 : Aside (SW enc w0 blk off d w) := S
    have HS1 : Aside _ := s1
    have HS2 : Aside _ := s2
    have HO : Aside _ := ho
    clear S ih s1 s2 ho
    have wma : IntKind.i64.wrap ((m : Int) - (a : Int)) = (m : Int) - (a : Int) := by rw [IntKind.wrap_i64]; omega
    have hd0 : (((m : Int) - (a : Int)) == (1 : Int)) = false := by simp; omega
    have wbm : IntKind.i64.wrap ((b : Int) - (m : Int)) = (b : Int) - (m : Int) := by rw [IntKind.wrap_i64]; omega
    have hd1 : (((b : Int) - (m : Int)) == (1 : Int)) = false := by simp; omega
    obtain ⟨mid, hm1, hm2, hz⟩ : ∃ mid : Nat, 2 * mid ≤ a + b ∧ a + b < 2 * mid + 2 ∧ ((a : Int) + (b : Int)) / 2 = (mid : Int) := ⟨(a + b) / 2, by omega, by omega, by omega⟩
    have wu : IntKind.u64.wrap ((a : Int) + (b : Int)) = (a : Int) + (b : Int) := by rw [IntKind.wrap_u64]; omega
    have wn : IntKind.i64.wrap ((mid : Int) + (m : Int)) = (mid : Int) + (m : Int) := by rw [IntKind.wrap_i64]; omega
    obtain ⟨st0, r0, z1, z2, z3, z4, hH, h0, h3⟩ : ∃ st0 r0 : Nat, (mid < m → st0 + b = mid + m ∧ r0 = mid) ∧ (m ≤ mid → st0 = a ∧ r0 = m) ∧ st0 ≤ r0 ∧ r0 ≤ m ∧ (∀ c, st0 ≤ c → c < r0 → a ≤ c ∧ c < m ∧ m + c < mid + m ∧ mid + m ≤ b + c) ∧ (st0 = a ∨ st0 + b = mid + m) ∧ (r0 = m ∨ r0 = mid) := by
      by_cases h : mid < m
      · exact ⟨mid + m - b, mid, fun _ => ⟨by omega, rfl⟩, fun _ => by omega, by omega, by omega, fun c _ _ => by omega, by omega, by omega⟩
      · exact ⟨a, m, fun _ => by omega, fun _ => ⟨rfl, rfl⟩, by omega, by omega, fun c _ _ => by omega, by omega, by omega⟩
    go_enter Try.func75, Try.ntmps75
    go_upto_if 140 with (fail)
    go_cut [20, 21] from 25 (fun s20 s21 wx => s20 = .int .i64 st0 ∧ s21 = .int .i64 r0 ∧ Aside (SW enc w0 blk off d wx))
    case first =>
      by_cases hmm : mid < m
      · have hmz : (mid : Int) < (m : Int) := by omega
        have z := z1 hmm
        have wb : IntKind.i64.wrap ((mid : Int) + (m : Int) - (b : Int)) = (mid : Int) + (m : Int) - (b : Int) := by rw [IntKind.wrap_i64]; omega
        go_wp2
        go_meet
        case rel => exact ⟨by first | rfl | (congr 1; omega), by first | rfl | (congr 1; omega), S0⟩
      · have hmz : ¬ (mid : Int) < (m : Int) := by omega
        have z := z2 (by omega)
        go_wp2
        go_meet
        case rel => exact ⟨by first | rfl | (congr 1; omega), by first | rfl | (congr 1; omega), S0⟩
    case rest =>
      clear S0
      obtain ⟨rfl, rfl, S0⟩ := hcut
      go_wp2
      go_loopg [20, 21] (r0 - st0) (fun g1 vi vj wr => ∃ i j : Nat, vi = .int .i64 i ∧ vj = .int .i64 j ∧ st0 ≤ i ∧ i ≤ j ∧ j ≤ r0 ∧ j - i ≤ g1 ∧ Aside (∀ c, st0 ≤ c → c < i → mlt cst d[c]! d[mid + m - 1 - c]!) ∧ Aside (∀ c, j ≤ c → c < r0 → mlt cst d[mid + m - 1 - c]! d[c]!) ∧ Aside (SW enc w0 blk off d wr))
      case atStart => exact ⟨st0, r0, rfl, rfl, by omega, by omega, by omega, by omega, fun k h1 h2 => by omega, fun k h1 h2 => by omega, S0⟩
      case round =>
        clear S0
        obtain ⟨i, j, rfl, rfl, hai, hij, hjb, hg1, L1, L2, S1⟩ := hrel
        by_cases hlt : i < j
        · have hltz : (i : Int) < (j : Int) := by omega
          obtain ⟨h, hh1, hh2, hz2⟩ : ∃ h : Nat, i ≤ h ∧ h < j ∧ ((i : Int) + (j : Int)) / 2 = (h : Int) := ⟨(i + j) / 2, by omega, by omega, by omega⟩
          have hhH := hH h (by omega) (by omega)
          obtain ⟨q, hq⟩ : ∃ q, q = mid + m - 1 - h := ⟨_, rfl⟩
          have wu2 : IntKind.u64.wrap ((i : Int) + (j : Int)) = (i : Int) + (j : Int) := by rw [IntKind.wrap_u64]; omega
          have wq : IntKind.i64.wrap ((mid : Int) + (m : Int) - 1 - (h : Int)) = (mid : Int) + (m : Int) - 1 - (h : Int) := by rw [IntKind.wrap_i64]; omega
          have zq : (mid : Int) + (m : Int) - 1 - (h : Int) = (q : Int) := by omega
          have bq : (q : Int) < (d.size : Int) := by omega
          have bh : (h : Int) < (d.size : Int) := by omega
          have ph : (0 : Int) ≤ (h : Int) := by omega
          have pq : (0 : Int) ≤ (q : Int) := by omega
          have th : ((h : Int)).toNat = h := by omega
          have tq : ((q : Int)).toNat = q := by omega
          have wq2 : IntKind.i64.wrap (q : Int) = (q : Int) := by rw [IntKind.wrap_i64]; omega
          obtain ⟨x, hx⟩ : ∃ x, x = d[q]! := ⟨_, rfl⟩
          obtain ⟨y, hy⟩ : ∃ x, x = d[h]! := ⟨_, rfl⟩
          have l1 := S1.out.cl R (by omega) q (by omega)
          have l2 := S1.out.cl R (by omega) h (by omega)
          rw [← hx] at l1
          rw [← hy] at l2
          have hc := S1.out.cmp HC.out (by omega) x y
          have hyx : y < x := by rw [hx, hy]; exact HO.out h q (by omega) (by omega) (by omega) (by omega)
          have hv := cmp_lt (cst := cst) hyx
          cases hd : decide (cst y - cst x < 0) with
          | true =>
            have hm : mlt cst d[q]! d[h]! := by rw [← hx, ← hy]; exact hv.mp (of_decide_eq_true hd)
            have N2 : Aside (∀ c, h ≤ c → c < r0 → mlt cst d[mid + m - 1 - c]! d[c]!) := fun k p1 p2 => by
              have e := hH k (by omega) p2
              by_cases e1 : k = h
              · rw [e1, ← hq]; exact hm
              · exact mlt_trans (HS2.out (mid + m - 1 - k) q (by omega) (by omega) (by omega)) (mlt_trans hm (HS1.out h k (by omega) (by omega) (by omega)))
            have hv1 : cst y - cst x < 0 := of_decide_eq_true hd
            clear hv hm hx hy hyx hq hhH
            go_wp2_with fail
            go_quiet_grown (first | (go_at_fn g; refine Calls.grown_of (hc _ _)))
            have S2 : Aside (SW enc w0 blk off d (grow (wr.drewN nq) osq)) := S1.out.grown nq osq
            clear l1 l2 hc S1
            generalize grow (wr.drewN nq) osq = w2 at S2 ⊢
            clear nq osq
            go_wp2
            go_roundg (h - i)
            case measure => omega
            case rel => exact ⟨i, h, rfl, rfl, hai, hh1, by omega, Nat.le_refl _, L1, N2, S2⟩
          | false =>
            have hm : mlt cst d[h]! d[q]! := by rw [← hx, ← hy]; exact mlt_of_not (fun e => (of_decide_eq_false hd) (hv.mpr e)) (by omega)
            have N1 : Aside (∀ c, st0 ≤ c → c < h + 1 → mlt cst d[c]! d[mid + m - 1 - c]!) := fun k p1 p2 => by
              have e := hH k p1 (by omega)
              by_cases e1 : k = h
              · rw [e1, ← hq]; exact hm
              · exact mlt_trans (HS1.out k h (by omega) (by omega) (by omega)) (mlt_trans hm (HS2.out q (mid + m - 1 - k) (by omega) (by omega) (by omega)))
            have hv1 : ¬ cst y - cst x < 0 := of_decide_eq_false hd
            clear hv hm hx hy hyx hq hhH
            go_wp2_with fail
            go_quiet_grown (first | (go_at_fn g; refine Calls.grown_of (hc _ _)))
            have S2 : Aside (SW enc w0 blk off d (grow (wr.drewN nq) osq)) := S1.out.grown nq osq
            clear l1 l2 hc S1
            generalize grow (wr.drewN nq) osq = w2 at S2 ⊢
            clear nq osq
            go_wp2
            go_roundg (j - (h + 1))
            case measure => omega
            case rel => exact ⟨h + 1, j, by first | rfl | go_num, rfl, by omega, by omega, hjb, Nat.le_refl _, N1, L2, S2⟩
        · have hltz : ¬ (i : Int) < (j : Int) := by omega
          obtain rfl : i = j := by omega
          obtain ⟨en, hen⟩ : ∃ en, en + i = mid + m := ⟨mid + m - i, by omega⟩
          have hi1 : a ≤ i := by rcases h0 with h | h <;> rcases h3 with h' | h' <;> omega
          have hi2 : i ≤ mid := by rcases h3 with h' | h' <;> by_cases hmm : mid < m <;> first | omega | (have := z1 hmm; omega) | (have := z2 (by omega); omega)
          have hi3 : en ≤ b := by rcases h0 with h | h <;> by_cases hmm : mid < m <;> first | omega | (have := z1 hmm; omega) | (have := z2 (by omega); omega)
          obtain ⟨hA, hB⟩ := cross_of HS1.out HS2.out hai hjb hen hH h0 h3 L1.out L2.out
          have HA : Aside _ := hA
          have HB2 : Aside _ := hB
          clear hA hB L1 L2
          have we : IntKind.i64.wrap ((mid : Int) + (m : Int) - (i : Int)) = (mid : Int) + (m : Int) - (i : Int) := by rw [IntKind.wrap_i64]; omega
          have ze : (mid : Int) + (m : Int) - (i : Int) = (en : Int) := by omega
          clear hH
          go_upto_region 39 with (fail)
          go_cut [185] from 175 (fun sc wx => sc = .bool (decide (i < m) && decide (m < en)) ∧ wx = wr)
          case first =>
            by_cases g1 : i < m
            · by_cases g2 : m < en
              · have y1 : (i : Int) < (m : Int) := by omega
                have y2 : (m : Int) < (en : Int) := by omega
                go_wp2
                go_meet
                case rel => exact ⟨by simp [g1, g2], rfl⟩
              · have y1 : (i : Int) < (m : Int) := by omega
                have y2 : ¬ (m : Int) < (en : Int) := by omega
                go_wp2
                go_meet
                case rel => exact ⟨by simp [g1, g2], rfl⟩
            · have y1 : ¬ (i : Int) < (m : Int) := by omega
              go_wp2
              go_meet
              case rel => exact ⟨by simp [g1], rfl⟩
          case rest =>
            obtain ⟨rfl, rfl⟩ := hcut
            go_upto_if 185 with (fail)
            go_cut [] from 175 (fun wx => ∃ d1, RotP d d1 i m en ∧ Aside (SW enc w0 blk off d1 wx))
            case first =>
              by_cases g1 : i < m
              · by_cases g2 : m < en
                · have y1 : decide (i < m) = true := decide_eq_true g1
                  have y2 : decide (m < en) = true := decide_eq_true g2
                  have hc := rotate_any enc blk off cap i m en (.func (.func g) #[] cb) d0 d w0 wc R hs S1.out g1 g2 (by omega) (by omega)
                  go_wp2_with (first | (go_at_call 77; refine hc.mono ?_; rintro e w5 ⟨rfl, d1, RP, S5⟩))
                  go_meet
                  case rel => exact ⟨d1, RP, S5⟩
                · have y2 : decide (m < en) = false := decide_eq_false g2
                  go_wp2
                  go_meet
                  case rel => exact ⟨d, rot_self (.inr (by omega)), S1⟩
              · have y1 : decide (i < m) = false := decide_eq_false g1
                go_wp2
                go_meet
                case rel => exact ⟨d, rot_self (.inl (by omega)), S1⟩
            case rest =>
              clear S1
              obtain ⟨d1, RP, S1⟩ := hcut
              obtain ⟨⟨k1, k2, k3⟩, ⟨k4, k5, k6⟩, kx⟩ := merge_parts HS1.out HS2.out HO.out hi1 (by omega) (by omega) hi3 (by omega) hi2 (by omega) HA.out HB2.out RP
              have hz1 : d1.size = d.size := RP.1
              have hp1 := permIn_mono d d1 i en a b hi1 hi3 hb (rot_perm RP (by omega) (by omega) (by omega))
              have RPH : Aside _ := hp1
              clear RP hp1 HA HB2
              have K1 : Aside _ := And.intro k1 (And.intro k2 k3)
              have K4 : Aside _ := And.intro k4 (And.intro k5 k6)
              have KX : Aside _ := kx
              clear k1 k2 k3 k4 k5 k6 kx
              go_upto_region 41 with (fail)
              go_cut [199] from 175 (fun sc wx => sc = .bool (decide (a < i) && decide (i < mid)) ∧ wx = wc)
              case first =>
                by_cases g1 : a < i
                · by_cases g2 : i < mid
                  · have y1 : (a : Int) < (i : Int) := by omega
                    have y2 : (i : Int) < (mid : Int) := by omega
                    go_wp2
                    go_meet
                    case rel => exact ⟨by simp [g1, g2], rfl⟩
                  · have y1 : (a : Int) < (i : Int) := by omega
                    have y2 : ¬ (i : Int) < (mid : Int) := by omega
                    go_wp2
                    go_meet
                    case rel => exact ⟨by simp [g1, g2], rfl⟩
                · have y1 : ¬ (a : Int) < (i : Int) := by omega
                  go_wp2
                  go_meet
                  case rel => exact ⟨by simp [g1], rfl⟩
              case rest =>
                obtain ⟨rfl, rfl⟩ := hcut
                go_upto_if 199 with (fail)
                go_cut [] from 175 (fun wx => ∃ d2, Aside (PermIn a mid d1 d2) ∧ Aside (SortedIn cst d2 a mid) ∧ Aside (SW enc w0 blk off d2 wx))
                case first =>
                  by_cases g1 : a < i
                  · by_cases g2 : i < mid
                    · have y1 : decide (a < i) = true := decide_eq_true g1
                      have y2 : decide (i < mid) = true := decide_eq_true g2
                      have hc := IH.out a i mid d1 wc (by omega) (hs.trans hz1.symm) S1.out g1 g2 (by omega) K1.out.1 K1.out.2.1 K1.out.2.2
                      rw [hz1] at hc
                      go_wp2_with (first | (go_at_call 75; refine hc.mono ?_; rintro e w5 ⟨rfl, d2, M, S5⟩))
                      go_meet
                      case rel => exact ⟨d2, M.1, M.2, S5⟩
                    · have y2 : decide (i < mid) = false := decide_eq_false g2
                      go_wp2
                      go_meet
                      case rel => exact ⟨d1, permIn_refl _ _ _, (by have h := K1.out.1; rw [show i = mid by omega] at h; exact h), S1⟩
                  · have y1 : decide (a < i) = false := decide_eq_false g1
                    go_wp2
                    go_meet
                    case rel => exact ⟨d1, permIn_refl _ _ _, (by have h := K1.out.2.1; rw [show i = a by omega] at h; exact h), S1⟩
                case rest =>
                  clear S1
                  obtain ⟨d2, P2, T2, S1⟩ := hcut
                  have hz2 : d2.size = d1.size := P2.out.1
                  have x2 : Aside (∀ k, mid ≤ k → d2[k]! = d1[k]!) := fun k hk => permIn_out P2.out k (.inr hk)
                  have k4 : Aside (SortedIn cst d2 mid en) := fun p q u v z => by rw [x2.out p u, x2.out q (by omega)]; exact K4.out.1 p q u v z
                  have k5 : Aside (SortedIn cst d2 en b) := fun p q u v z => by rw [x2.out p (by omega), x2.out q (by omega)]; exact K4.out.2.1 p q u v z
                  have k6 : Aside (Older d2 mid en b) := fun p q u v z y => by rw [x2.out p u, x2.out q (by omega)]; exact K4.out.2.2 p q u v z y
                  clear x2 K4
                  go_upto_region 43 with (fail)
                  go_cut [213] from 200 (fun sc wx => sc = .bool (decide (mid < en) && decide (en < b)) ∧ wx = wc)
                  case first =>
                    by_cases g1 : mid < en
                    · by_cases g2 : en < b
                      · have y1 : (mid : Int) < (en : Int) := by omega
                        have y2 : (en : Int) < (b : Int) := by omega
                        go_wp2
                        go_meet
                        case rel => exact ⟨by simp [g1, g2], rfl⟩
                      · have y1 : (mid : Int) < (en : Int) := by omega
                        have y2 : ¬ (en : Int) < (b : Int) := by omega
                        go_wp2
                        go_meet
                        case rel => exact ⟨by simp [g1, g2], rfl⟩
                    · have y1 : ¬ (mid : Int) < (en : Int) := by omega
                      go_wp2
                      go_meet
                      case rel => exact ⟨by simp [g1], rfl⟩
                  case rest =>
                    obtain ⟨rfl, rfl⟩ := hcut
                    have fin : ∀ d3 : Array Nat, PermIn mid b d2 d3 → SortedIn cst d3 mid b → Merged cst d d3 a b := fun d3 p3 t3 => by
                      obtain ⟨h1, h2⟩ := merge_whole (by omega) (by omega) (by omega) KX.out P2.out T2.out p3 t3
                      exact ⟨permIn_trans _ _ _ _ _ RPH.out h1, h2⟩
                    have FIN : Aside _ := fin
                    clear fin
                    by_cases g1 : mid < en
                    · by_cases g2 : en < b
                      · have y1 : decide (mid < en) = true := decide_eq_true g1
                        have y2 : decide (en < b) = true := decide_eq_true g2
                        have hc := IH.out mid en b d2 wc (by omega) (by omega) S1.out g1 g2 (by omega) k4.out k5.out k6.out
                        rw [hz2, hz1] at hc
                        go_wp2_with (first | (go_at_call 75; refine hc.mono ?_; rintro e w5 ⟨rfl, d3, M, S5⟩))
                        go_end0
                        exact ⟨rfl, d3, FIN.out d3 M.1 M.2, S5⟩
                      · have y2 : decide (en < b) = false := decide_eq_false g2
                        go_wp2
                        go_end0
                        exact ⟨rfl, d2, FIN.out d2 (permIn_refl _ _ _) (by have h := k4.out; rw [show en = b by omega] at h; exact h), S1.out⟩
                    · have y1 : decide (mid < en) = false := decide_eq_false g1
                      go_wp2
                      go_end0
                      exact ⟨rfl, d2, FIN.out d2 (permIn_refl _ _ _) (by have h := k5.out; rw [show en = mid by omega] at h; exact h), S1.out⟩
end Go.Proofs.Ytkoplphcdkmilaa.All
end
section
namespace Go.Proofs.Ytkoplphcdkmilaa.All
open Go.Shelf Go.Lib Go.Sort Go.RowKit Go.Proofs.YtkoplphcdkmilaaW.PrintWords Go.Proofs.YtkoplphcdkmilaaW.PrintLast Go.Proofs.YtkoplphcdkmilaaW.PrintMore GSteps
set_option linter.unusedVariables false
set_option linter.unusedSimpArgs false

theorem inc_part {d : Array Nat} {a b c e : Nat} (h : Inc d a b) (h1 : a ≤ c) (h2 : e ≤ b) : Inc d c e := fun i j p q r => h i j (by omega) q (by omega)
theorem inc_kept {d dk : Array Nat} {a b c e : Nat} (h : Inc d a b) (hp : PermIn c e d dk) (h1 : e ≤ a) : Inc dk a b := fun i j p q r => by
  rw [permIn_out hp i (by omega), permIn_out hp j (by omega)]; exact h i j p q r

set_option maxHeartbeats 16000000 in
set_option maxRecDepth 100000 in
theorem stable_any (enc : Nat → Value) (cst : Nat → Int) (g : Nat) (cb : Array Value) (blk off cap n : Nat) (d0 d : Array Nat) (w0 w : World)
    (eg : ∀ args w, (callFunc g args).run Try.prog w = .ok (.enter g args) w) (hcmp : CmpLays1 Try.prog g cb enc (fun x y => cst y - cst x) blk off d0.size w0) (R : Row1 enc w0 blk off d0) (hs : d0.size = d.size) (S : SW enc w0 blk off d w)
    (hn : d.size = n) (h22 : n ≤ 22) (hinc : Inc d 0 n) :
    Calls Try.prog 64 #[.slice (some ⟨blk, off, none⟩) n cap, .int .i64 n, .func (.func g) #[] cb] w fun e w' => e = .returned (.tuple #[]) ∧ ∃ d', Merged cst d d' 0 n ∧ SW enc w0 blk off d' w' := by
  have HC : Aside _ := hcmp
  have HI : Aside _ := hinc
  have S0 : Aside (SW enc w0 blk off d w) := S
  clear S hcmp hinc
  go_enter Try.func64, Try.ntmps64
  go_wp2
  go_loopg [7, 8] 2 (fun g1 va vb wr => ∃ dk : Array Nat, ((va = .int .i64 0 ∧ vb = .int .i64 20 ∧ dk = d ∧ 1 ≤ g1) ∨ (va = .int .i64 20 ∧ vb = .int .i64 40 ∧ 20 ≤ n ∧ Aside (Merged cst d dk 0 20))) ∧ Aside (SW enc w0 blk off dk wr))
  case atStart => exact ⟨d, .inl ⟨rfl, rfl, rfl, by omega⟩, S0⟩
  case round =>
    clear S0
    obtain ⟨dk, hst, S1⟩ := hrel
    rcases hst with ⟨rfl, rfl, rfl, hg1⟩ | ⟨rfl, rfl, h20, M1⟩
    · by_cases h20 : 20 ≤ n
      · have h20z : (20 : Int) ≤ (n : Int) := by omega
        have hc := insertion_any enc cst g cb blk off cap 0 20 d0 dk w0 wr eg HC.out R hs S1.out (by omega) (by omega) (by omega) (inc_part HI.out (by omega) h20)
        rw [show ((0 : Nat) : Int) = 0 from rfl, show ((20 : Nat) : Int) = 20 from rfl, hn] at hc
        go_wp2_with (first | (go_at_call 74; refine hc.mono ?_; rintro e w5 ⟨rfl, d1, M, S5⟩))
        go_roundg 0
        case measure => omega
        case rel => exact ⟨d1, .inr ⟨rfl, by first | rfl | go_num, h20, M⟩, S5⟩
      · have h20z : ¬ (20 : Int) ≤ (n : Int) := by omega
        have h20y : ¬ (20 : Int) < (n : Int) := by omega
        have hc := insertion_any enc cst g cb blk off cap 0 n d0 dk w0 wr eg HC.out R hs S1.out (by omega) (by omega) (by omega) HI.out
        rw [show ((0 : Nat) : Int) = 0 from rfl, hn] at hc
        go_wp2_with (first | (go_at_call 74; refine hc.mono ?_; rintro e w5 ⟨rfl, d1, M, S5⟩))
        go_loopg [6] 1 (fun g1 v6 wr => v6 = .int .i64 20 ∧ Aside (SW enc w0 blk off d1 wr))
        case atStart => exact ⟨rfl, S5⟩
        case round =>
          obtain ⟨rfl, S6⟩ := hrel
          go_wp2
          go_end0
          exact ⟨rfl, d1, M, S6.out⟩
    · have h40 : ¬ (40 : Int) ≤ (n : Int) := by omega
      have hsk : dk.size = n := by rw [M1.out.1.1]; exact hn
      have hc := insertion_any enc cst g cb blk off cap 20 n d0 dk w0 wr eg HC.out R (by omega) S1.out h20 (by omega) (by omega) (inc_kept (inc_part HI.out (by omega) (Nat.le_refl _)) M1.out.1 (Nat.le_refl _))
      rw [show ((20 : Nat) : Int) = 20 from rfl, hsk] at hc
      go_wp2_with (first | (go_at_call 74; refine hc.mono ?_; rintro e w5 ⟨rfl, d1, M, S5⟩))
      have hz1 : d1.size = n := by rw [M.1.1]; exact hsk
      have T1 : Aside (SortedIn cst d1 0 20) := fun p q u v z => by rw [permIn_out M.1 p (by omega), permIn_out M.1 q (by omega)]; exact M1.out.2 p q u v z
      have P1 : Aside (PermIn 0 n d d1) := permIn_trans _ _ _ _ _ (permIn_mono _ _ 0 20 0 n (by omega) (by omega) (by omega) M1.out.1) (permIn_mono _ _ 20 n 0 n (by omega) (by omega) (by omega) M.1)
      have O1 : Aside (Older d1 0 20 n) := fun p q u v z y => by
        obtain ⟨q', e1, e2, e3⟩ := permIn_mem M.1 (by omega) q z y
        obtain ⟨p', f1, f2, f3⟩ := permIn_mem M1.out.1 (by omega) p u v
        rw [e3, permIn_out M.1 p (by omega), permIn_out M1.out.1 q' (by omega), f3]
        exact HI.out p' q' f1 (by omega) e2
      have T2 : Aside (SortedIn cst d1 20 n) := M.2
      clear M M1 S1
      go_loopg [6] 1 (fun g1 v6 wr => ∃ d2 : Array Nat, ((v6 = .int .i64 20 ∧ d2 = d1 ∧ 1 ≤ g1) ∨ (v6 = .int .i64 40 ∧ Aside (Merged cst d1 d2 0 n))) ∧ Aside (SW enc w0 blk off d2 wr))
      case atStart => exact ⟨d1, .inl ⟨rfl, rfl, by omega⟩, S5⟩
      case round =>
        obtain ⟨d2, hst, S6⟩ := hrel
        rcases hst with ⟨rfl, rfl, hg1⟩ | ⟨rfl, M2⟩
        · by_cases h21 : 20 < n
          · have h21z : (20 : Int) < (n : Int) := by omega
            go_wp2
            go_loopg [7, 8] 1 (fun g1 v7 v8 wr => v7 = .int .i64 0 ∧ v8 = .int .i64 40 ∧ Aside (SW enc w0 blk off d2 wr))
            case atStart => exact ⟨rfl, rfl, S6⟩
            case round =>
              clear S6
              obtain ⟨rfl, rfl, S6⟩ := hrel
              have h40z : ¬ (40 : Int) ≤ (n : Int) := by omega
              have hc2 := merge_any enc cst g cb blk off cap d0 w0 eg HC.out R (by omega) n 0 20 n d2 wr (by omega) (by omega) S6.out (by omega) h21 (by omega) T1.out T2.out O1.out
              rw [show ((0 : Nat) : Int) = 0 from rfl, show ((20 : Nat) : Int) = 20 from rfl, hz1] at hc2
              go_wp2_with (first | (go_at_call 75; refine hc2.mono ?_; rintro e w5 ⟨rfl, d3, M3, S7⟩))
              go_roundg 0
              case measure => omega
              case rel => exact ⟨d3, .inr ⟨by first | rfl | go_num, M3⟩, S7⟩
          · have h21z : ¬ (20 : Int) < (n : Int) := by omega
            go_wp2
            go_end0
            exact ⟨rfl, d2, ⟨P1.out, (by have h := T1.out; rw [show 20 = n by omega] at h; exact h)⟩, S6.out⟩
        · have h40z : ¬ (40 : Int) < (n : Int) := by omega
          go_wp2
          go_end0
          exact ⟨rfl, d2, ⟨permIn_trans _ _ _ _ _ P1.out M2.out.1, M2.out.2⟩, S6.out⟩
end Go.Proofs.Ytkoplphcdkmilaa.All
end
