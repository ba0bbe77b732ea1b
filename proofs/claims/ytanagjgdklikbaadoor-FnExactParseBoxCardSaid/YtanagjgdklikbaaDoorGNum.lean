/- impl.number (strconv.Atoi, strconv.Itoa, within), walked by hand over the shelf's contracts, in the print's form. Conditions: the two errors' variables and the table of powers lie as the start laid them. -/
import Derived.Test.YtanagjgdklikbaaDoorShelfB
import Derived.Shelf.Strconv.AtoiAll
import Derived.Shelf.Strconv.ErrVarAll
import Derived.Lib.AtoiErrMem
import Derived.Lib.SmallJoins
import Derived.Lib.AppendIntMem
import Derived.Test.YtanagjgdklikbaaDoorAx1
namespace Go.Proofs.YtanagjgdklikbaaDoor.All
open Go.RowKit Go.Shelf Go.Proofs.YtanagjgdklikbaaDoorW.PrintWords Go.Proofs.YtanagjgdklikbaaDoorW.PrintLast Go.Proofs.YtanagjgdklikbaaDoorW.PrintMore
set_option linter.unusedVariables false

/-- What the library's variables hold, as the start laid them. -/
def LaidW (w : World) : Prop :=
  Lib.TabIs Tryd.prog w "internal/strconv.uint64pow10" .u64 Lib.pow10Tab ∧
  (∃ tp p, w.var? Tryd.prog "strconv.ErrSyntax" = some #[.iface tp p]) ∧
  (∃ tp p, w.var? Tryd.prog "strconv.ErrRange" = some #[.iface tp p])

theorem gPow : ∃ g, Tryd.prog.globalNamed "internal/strconv.uint64pow10" = some g := Option.isSome_iff_exists.1 (by kernel_rfl)
theorem gSyn : ∃ g, Tryd.prog.globalNamed "strconv.ErrSyntax" = some g := Option.isSome_iff_exists.1 (by kernel_rfl)
theorem gRan : ∃ g, Tryd.prog.globalNamed "strconv.ErrRange" = some g := Option.isSome_iff_exists.1 (by kernel_rfl)

theorem laidW_later {w w' : World} {B : Nat} (h : LaidW w) (hb : Below B w w') (hB : w.heap.size ≤ B) : LaidW w' := by
  obtain ⟨h1, ⟨t2, p2, h2⟩, t3, p3, h3⟩ := h
  obtain ⟨g1, e1⟩ := gPow
  obtain ⟨g2, e2⟩ := gSyn
  obtain ⟨g3, e3⟩ := gRan
  exact ⟨Joins.tab_stays e1 h1 hb hB, ⟨t2, p2, Joins.var_stays e2 h2 hb hB⟩, t3, p3, Joins.var_stays e3 h3 hb hB⟩

/-- The int that s spells, if it spells one. -/
def atoiOk (s : ByteArray) : Option Int := match Lib.atoiAll s.data.toList with | .ok v => some v | _ => none

theorem atoi_calls (s : ByteArray) (hs : s.size ≤ 281474976710656) (w : World) (hl : LaidW w) :
    Calls Tryd.prog 44 #[.string s] w fun e w' => (∃ v ev, e = .returned (.tuple #[.int .i64 v, ev]) ∧ (-9223372036854775808 ≤ v ∧ v ≤ 9223372036854775807) ∧ ((atoiOk s = some v ∧ ev = .nilIface) ∨ (atoiOk s = none ∧ ∃ N, ev = .iface 91 (.pointer (some ⟨N, 0, none⟩))))) ∧ Below w.heap.size w w' := by
  obtain ⟨h1, ⟨t2, p2, h2⟩, t3, p3, h3⟩ := hl
  cases h : Lib.atoiAll s.data.toList
  next v =>
    have hc : Calls Tryd.prog 44 #[.string s] w fun e w' => e = .returned (.tuple #[.int .i64 v, .nilIface]) ∧ (w' = w ∨ ∃ t, w' = Lib.bytesWorld w 5 t) := Any.strconv_Atoi_ok Tryd.laysC172 s (by omega) v h w
    refine hc.mono ?_
    rintro e w' ⟨rfl, hw⟩
    refine ⟨⟨v, .nilIface, rfl, Lib.atoiAll_bounds h, Or.inl ⟨by simp only [atoiOk, h], rfl⟩⟩, ?_⟩
    rcases hw with rfl | ⟨t, rfl⟩
    · exact Below.refl _ _
    · exact Lib.bytesWorld_below _ _ _
  next =>
    have hc : Calls Tryd.prog 44 #[.string s] w fun e w' => ∃ N, e = .returned (.tuple #[.int .i64 0, .iface 91 (.pointer (some ⟨N, 0, none⟩))]) ∧ w.heap.size ≤ N ∧ w'.heap[N]? = some (.cells #[.string ⟨#[65, 116, 111, 105]⟩, .string s, .iface t2 p2] 107 (0, 0)) ∧ Below w.heap.size w w' := Any.strconv_Atoi_syntax_var Tryd.laysC172 s hs h t2 p2 w h2
    refine hc.mono ?_
    rintro e w' ⟨N, rfl, -, -, hb⟩
    exact ⟨⟨0, _, rfl, by omega, Or.inr ⟨by simp only [atoiOk, h], N, rfl⟩⟩, hb⟩
  next =>
    have hc : Calls Tryd.prog 44 #[.string s] w fun e w' => ∃ N, e = .returned (.tuple #[.int .i64 (Lib.atoiSat s.data.toList), .iface 91 (.pointer (some ⟨N, 0, none⟩))]) ∧ w.heap.size ≤ N ∧ w'.heap[N]? = some (.cells #[.string ⟨#[65, 116, 111, 105]⟩, .string s, .iface t3 p3] 107 (0, 0)) ∧ Below w.heap.size w w' := Any.strconv_Atoi_range_var Tryd.laysC172 s hs h t3 p3 w h3
    refine hc.mono ?_
    rintro e w' ⟨N, rfl, -, -, hb⟩
    exact ⟨⟨_, _, rfl, Lib.atoiSat_bounds _, Or.inr ⟨by simp only [atoiOk, h], N, rfl⟩⟩, hb⟩

theorem itoa_calls (n : Int) (h0 : -9223372036854775808 ≤ n) (h1 : n ≤ 9223372036854775807) (w : World) (hl : LaidW w) :
    Calls Tryd.prog 33 #[.int .i64 n] w fun e w' => e = .returned (.string ⟨(Lib.itoa n).toArray⟩) ∧ Below w.heap.size w w' := by
  refine (Tryd.strconv_Itoa n h0 h1 w hl.1).mono ?_
  rintro e w' ⟨rfl, k, os, rfl⟩
  exact ⟨rfl, Lib.below_grow w.heap.size w (Nat.le_refl _) k os⟩

/-- The number in 0..most with a text. -/
def numOk (s : ByteArray) (most : Int) : Option Int := (atoiOk s).bind fun v => if (⟨(Lib.itoa v).toArray⟩ : ByteArray) = s ∧ 0 ≤ v ∧ v ≤ most then some v else none

theorem atoi_some {s : ByteArray} (hs : s.size ≤ 281474976710656) (w : World) (hl : LaidW w) {v : Int} (h : atoiOk s = some v) :
    Calls Tryd.prog 44 #[.string s] w fun e w' => e = .returned (.tuple #[.int .i64 v, .nilIface]) ∧ Below w.heap.size w w' := by
  refine (atoi_calls s hs w hl).mono ?_
  rintro e w' ⟨⟨v', ev, rfl, -, h1 | h1⟩, hb⟩
  · obtain ⟨h1, rfl⟩ := h1
    obtain rfl := Option.some.inj (h.symm.trans h1)
    exact ⟨rfl, hb⟩
  · rw [h] at h1; cases h1.1
theorem atoi_none {s : ByteArray} (hs : s.size ≤ 281474976710656) (w : World) (hl : LaidW w) (h : atoiOk s = none) :
    Calls Tryd.prog 44 #[.string s] w fun e w' => ∃ v N, e = .returned (.tuple #[.int .i64 v, .iface 91 (.pointer (some ⟨N, 0, none⟩))]) ∧ Below w.heap.size w w' := by
  refine (atoi_calls s hs w hl).mono ?_
  rintro e w' ⟨⟨v', ev, rfl, -, h1 | h1⟩, hb⟩
  · rw [h] at h1; cases h1.1
  · obtain ⟨_, N, rfl⟩ := h1
    exact ⟨v', N, rfl, hb⟩
theorem atoi_lim {s : ByteArray} {v : Int} (h : atoiOk s = some v) : -9223372036854775808 ≤ v ∧ v ≤ 9223372036854775807 := by
  unfold atoiOk at h
  split at h
  · rename_i v' e
    obtain rfl := Option.some.inj h
    exact Lib.atoiAll_bounds e
  · cases h

def impl_number.f (a0 : ByteArray) (a1 : Int) : Option (Int × Bool) :=
  if a0.size ≤ 281474976710656 then (match numOk a0 a1 with | some v => some (v, true) | none => some (0, false)) else none

set_option maxHeartbeats 2000000 in
set_option maxRecDepth 100000 in
theorem impl_number.calls (a0 : ByteArray) (a1 : Int) (r1 : Int) (r2 : Bool) (w : World) (hl : LaidW w) (h : impl_number.f a0 a1 = some (r1, r2)) :
    Calls Tryd.prog 40 #[.string a0, .int .i64 a1] w fun e w' => e = .returned (.tuple #[.int .i64 r1, .bool r2]) ∧ Below w.heap.size w w' := by
  unfold impl_number.f at h
  split at h
  · rename_i hs
    cases hA : atoiOk a0 with
    | none =>
      have hN : numOk a0 a1 = none := by simp only [numOk, hA, Option.bind_none]
      rw [hN] at h
      injection h with h
      injection h with h1 h2
      subst h1; subst h2
      clear hN
      go_enter Tryd.func40, Tryd.ntmps40
      go_wp2_with (go_at_call 44; refine (atoi_none hs _ hl hA).mono ?_; rintro e w1 ⟨v, N, rfl, hb1⟩)
      go_wp2
      go_ret2
      exact ⟨rfl, hb1⟩
    | some v =>
      obtain ⟨v0, v1⟩ := atoi_lim hA
      obtain ⟨I, hI⟩ : ∃ I : ByteArray, (⟨(Lib.itoa v).toArray⟩ : ByteArray) = I := ⟨_, rfl⟩
      by_cases hc : (⟨(Lib.itoa v).toArray⟩ : ByteArray) = a0
      · have hI2 : I = a0 := hI.symm.trans hc
        have H2 := Aside0.mk hI2
        have H1 := Aside0.mk hI
        clear hI hI2
        by_cases hr : 0 ≤ v ∧ v ≤ a1
        · have hN : numOk a0 a1 = some v := by simp only [numOk, hA, Option.bind_some]; rw [if_pos ⟨hc, hr⟩]
          rw [hN] at h
          injection h with h
          injection h with h1 h2
          subst h1; subst h2
          clear hN
          have hw : impl_within.f v 0 a1 = some true := by simp [impl_within.f, hr.1, hr.2]
          clear hc hr
          go_enter Tryd.func40, Tryd.ntmps40
          go_wp2_with (first
            | (go_at_call 44; refine (atoi_some hs _ hl hA).mono ?_; rintro e w1 ⟨rfl, hb1⟩)
            | (go_at_call 33; refine (itoa_calls v v0 v1 _ (laidW_later hl hb1 (Nat.le_refl _))).mono ?_; rw [H1.out, H2.out]; rintro e w2 ⟨rfl, hb2⟩)
            | (go_at_call 32; refine (impl_within.calls v 0 a1 _ _ hw).mono ?_; rintro e w3 ⟨rfl, hd⟩))
          go_wp2
          go_ret2
          exact ⟨rfl, (hb1.trans (hb2.mono hb1.size)).trans (hd.below.mono (Nat.le_trans hb1.size hb2.size))⟩
        · have hN : numOk a0 a1 = none := by simp only [numOk, hA, Option.bind_some]; rw [if_neg (fun e => hr e.2)]
          rw [hN] at h
          injection h with h
          injection h with h1 h2
          subst h1; subst h2
          clear hN
          have hw : impl_within.f v 0 a1 = some false := by
            unfold impl_within.f
            by_cases h0 : 0 ≤ v
            · rw [if_pos h0, decide_eq_false (fun e => hr ⟨h0, e⟩)]
            · rw [if_neg h0]
          clear hc hr
          go_enter Tryd.func40, Tryd.ntmps40
          go_wp2_with (first
            | (go_at_call 44; refine (atoi_some hs _ hl hA).mono ?_; rintro e w1 ⟨rfl, hb1⟩)
            | (go_at_call 33; refine (itoa_calls v v0 v1 _ (laidW_later hl hb1 (Nat.le_refl _))).mono ?_; rw [H1.out, H2.out]; rintro e w2 ⟨rfl, hb2⟩)
            | (go_at_call 32; refine (impl_within.calls v 0 a1 _ _ hw).mono ?_; rintro e w3 ⟨rfl, hd⟩))
          go_wp2
          go_ret2
          exact ⟨rfl, (hb1.trans (hb2.mono hb1.size)).trans (hd.below.mono (Nat.le_trans hb1.size hb2.size))⟩
      · have hN : numOk a0 a1 = none := by simp only [numOk, hA, Option.bind_some]; rw [if_neg (fun e => hc e.1)]
        rw [hN] at h
        injection h with h
        injection h with h1 h2
        subst h1; subst h2
        clear hN
        have hI2 : ¬ I = a0 := fun e => hc (hI.trans e)
        have hI3 : (I.toList = a0.toList) = False := eq_false (fun e => hI2 (by rw [ByteArray.toList_eq, ByteArray.toList_eq] at e; exact ByteArray.ext (Array.toList_inj.1 e)))
        clear hI2
        have H1 := Aside0.mk hI
        clear hI hc
        have hw : True := trivial
        go_enter Tryd.func40, Tryd.ntmps40
        go_wp2_with (first
          | (go_at_call 44; refine (atoi_some hs _ hl hA).mono ?_; rintro e w1 ⟨rfl, hb1⟩)
          | (go_at_call 33; refine (itoa_calls v v0 v1 _ (laidW_later hl hb1 (Nat.le_refl _))).mono ?_; rw [H1.out]; rintro e w2 ⟨rfl, hb2⟩))
        go_wp2
        go_ret2
        exact ⟨rfl, hb1.trans (hb2.mono hb1.size)⟩
  · cases h

end Go.Proofs.YtanagjgdklikbaaDoor.All
