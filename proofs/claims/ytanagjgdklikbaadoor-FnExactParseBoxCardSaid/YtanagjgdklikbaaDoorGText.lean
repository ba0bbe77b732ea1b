/- The calls of strconv.Itoa (numbers below 100) and strings.Join, laid from the kit's shelf: their contracts, in the form of the print. Conditions: a number from 0 to 99; a row of texts that together stay below 2^47 letters. -/
import Derived.Test.YtanagjgdklikbaaDoorShelf
import Derived.Test.YtanagjgdklikbaaDoorAx0
namespace Go.Proofs.YtanagjgdklikbaaDoor.All
open Go.RowKit Go.Proofs.YtanagjgdklikbaaDoorW.PrintWords Go.Proofs.YtanagjgdklikbaaDoorW.PrintLast Go.Proofs.YtanagjgdklikbaaDoorW.PrintMore
set_option linter.unusedVariables false

def strconv_Itoa.f (a0 : Int) : Option ByteArray := if 0 ≤ a0 ∧ a0 < 100 then some ⟨(Lib.decDigits a0.toNat).toArray⟩ else none
theorem strconv_Itoa.calls (a0 : Int) (r : ByteArray) (w : World) (h : strconv_Itoa.f a0 = some r) :
    Calls Tryd.prog 33 #[.int .i64 a0] w fun e w' => e = .returned (.string r) ∧ Below w.heap.size w w' := by
  unfold strconv_Itoa.f at h
  by_cases c : 0 ≤ a0 ∧ a0 < 100
  · rw [if_pos c] at h
    obtain rfl := Option.some.inj h
    obtain ⟨n, rfl⟩ := Int.eq_ofNat_of_zero_le c.1
    refine (Tryd.strconv_Itoa_small n (by omega) w).mono ?_
    rintro e w' ⟨rfl, rfl⟩
    exact ⟨rfl, Below.refl _ _⟩
  · rw [if_neg c] at h
    cases h

/-- The address of a row of the call's own names a block's cells. -/
theorem spot_of_R {α : Type} {d : Kd α} {e base : Nat} {w : World} {ok : Nat → Prop} {A : Option Addr} {n c : Nat} {xs : List α} (h : d.R e w base ok (.slice A n c) xs) : ∀ ad, A = some ad → ad.spot = none := by
  intro ad e1
  subst e1
  obtain ⟨h0, inner, ⟨hl, hown⟩, hr⟩ := h
  rcases hown with ⟨e1, _⟩ | ⟨g', cap', cur, e1, _⟩
  · cases e1
  · injection e1 with ea en ec
    injection ea with ea
    subst ea
    rfl

def strings_Join.f (l0 : List ByteArray) (a1 : ByteArray) : Option ByteArray :=
  if l0.length ≤ 140737488355328 ∧ (Lib.join (l0.map (·.data.toList)) a1.data.toList).length ≤ 140737488355328 then some ⟨(Lib.join (l0.map (·.data.toList)) a1.data.toList).toArray⟩ else none
theorem strings_Join.calls (A0 : Option Addr) (c0 : Nat) (l0 : List ByteArray) (a1 : ByteArray) (r : ByteArray) (w : World) (hr0 : Kd.C Kd.string w A0 l0.length l0) (hc0 : l0.length ≤ c0) (hs : ∀ ad, A0 = some ad → ad.spot = none) (h : strings_Join.f l0 a1 = some r) :
    Calls Tryd.prog 42 #[.slice A0 l0.length c0, .string a1] w fun e w' => e = .returned (.string r) ∧ Below w.heap.size w w' := by
  unfold strings_Join.f at h
  by_cases c : l0.length ≤ 140737488355328 ∧ (Lib.join (l0.map (·.data.toList)) a1.data.toList).length ≤ 140737488355328
  · rw [if_pos c] at h
    obtain rfl := Option.some.inj h
    cases l0 with
    | nil =>
      refine (Tryd.strings_Join_none A0 c0 a1 w).mono ?_
      rintro e w' ⟨rfl, rfl⟩
      exact ⟨rfl, Below.refl _ _⟩
    | cons x xs =>
      obtain ⟨ad, e, hx0⟩ := Kd.at_string hr0 0 (by omega) (by simp)
      subst e
      have hsp := hs ad rfl
      obtain ⟨bk, o, sp⟩ := ad
      subst hsp
      refine Tryd.strings_Join bk o c0 (x :: xs) a1 w ?_ (World.block_lt_of_cell? w _ hx0) c.1 hc0 c.2
      intro j y hj
      obtain ⟨ad, e, hx⟩ := Kd.at_string hr0 (j : Int) (by omega) (by have := (List.getElem?_eq_some_iff.1 hj).1; omega)
      cases e
      have e2 : rdOf ByteArray.empty (x :: xs) (j : Int) = y := by simp [rdOf, List.getD, hj]
      rw [e2] at hx
      simp only [Int.toNat_natCast] at hx
      rw [← hx]
      unfold Addr.add
      by_cases hj0 : j = 0
      · rw [if_pos hj0, hj0]
        rfl
      · rw [if_neg hj0]
  · rw [if_neg c] at h
    cases h
end Go.Proofs.YtanagjgdklikbaaDoor.All
