/- The call of impl.areSeveral tells whether there are one to eight bars, all of them with sides of 1 to 12: the contract of that function, in the form of the print. Conditions: the list that comes in is read (its cells stand in memory). -/
import Derived.Test.YtoplnaobaedciaaAx1
import Derived.Test.YtoplnaobaedciaaGDel
namespace Go.Proofs.Ytoplnaobaedciaa.All
open Go.RowKit Go.Proofs.YtoplnaobaedciaaW.PrintWords Go.Proofs.YtoplnaobaedciaaW.PrintLast Go.Proofs.YtoplnaobaedciaaW.PrintMore Go.Shelf Go.Proofs.Ytoplnaobaedciaa.G
set_option linter.unusedVariables false
set_option linter.unusedSimpArgs false

set_option maxHeartbeats 2000000 in
theorem contains_any (g : Nat) (lb : Array Value) (eg : ∀ args w, (callFunc g args).run Try.prog w = .ok (.enter g args) w) (p : S31 → Bool) (A0 : Option Addr) (c0 : Nat) (l0 : List S31) (w : World) (hr0 : Kd.C k31 w A0 l0.length l0)
    (hp : ∀ (W : World) (x : S31), Below w.heap.size w W → Calls Try.prog g (#[.agg #[.int .i64 x.f0, .int .i64 x.f1]] ++ lb) W fun e w' => e = .returned (.bool (p x)) ∧ Below W.heap.size W w') :
    Calls Try.prog 45 #[.slice A0 l0.length c0, .func (.func g) #[] lb] w fun e w' => e = .returned (.bool (l0.any p)) ∧ Below w.heap.size w w' := by
  have hc := index_any g lb eg p A0 c0 l0 w hr0 hp
  have HE := Aside0.mk (idxOf_nonneg p l0 0)
  clear hp hr0
  generalize idxOf p l0 0 = i at hc HE
  go_enter Try.func45, Try.ntmps45
  go_wp2_with (go_at_call 47; refine hc.mono ?_; rintro e w' ⟨rfl, hb'⟩)
  go_ret
  exact ⟨by rw [← HE.out]; rfl, hb'⟩

def barOk (x : S31) : Bool := decide (1 ≤ x.f0 ∧ x.f0 ≤ 12 ∧ 1 ≤ x.f1 ∧ x.f1 ≤ 12)
theorem isBar_eq (a b : Int) : impl_isBar.f a b = some (barOk ⟨a, b⟩) := by
  unfold impl_isBar.f impl_within.f barOk
  by_cases h1 : 1 ≤ a <;> by_cases h2 : a ≤ 12 <;> by_cases h3 : 1 ≤ b <;> by_cases h4 : b ≤ 12 <;> simp [h1, h2, h3, h4]

set_option maxHeartbeats 2000000 in
theorem noBar (W : World) (x : S31) : Calls Try.prog 46 (#[.agg #[.int .i64 x.f0, .int .i64 x.f1]] ++ #[]) W fun e w' => e = .returned (.bool (!barOk x)) ∧ Below W.heap.size W w' := by
  have hu31 := Try.underlying31
  have hc := fun w => impl_isBar.calls x.f0 x.f1 (barOk x) w (isBar_eq x.f0 x.f1)
  generalize barOk x = b at hc
  show Calls Try.prog 46 #[.agg #[.int .i64 x.f0, .int .i64 x.f1]] W _
  generalize x.f0 = p at hc
  generalize x.f1 = q at hc
  go_enter Try.func46, Try.ntmps46
  go_wp2_with (go_at_call 30; refine (hc _).mono ?_; rintro e w' ⟨rfl, hb'⟩)
  go_ret
  exact ⟨rfl, below_then (below_alloc (Below.refl _ _) _) (by simp) hb'⟩

def impl_areSeveral.f (l0 : List (S31)) : Option (Bool) := some (decide (1 ≤ (l0.length : Int) ∧ (l0.length : Int) ≤ 8) && !(l0.any fun x => !barOk x))
theorem within_eq (a b c : Int) : impl_within.f a b c = some (decide (b ≤ a ∧ a ≤ c)) := by
  unfold impl_within.f
  by_cases h1 : b ≤ a <;> by_cases h2 : a ≤ c <;> simp [h1, h2]

set_option maxHeartbeats 2000000 in
theorem impl_areSeveral.calls (A0 : Option Addr) (c0 : Nat) (l0 : List (S31)) (r : Bool) (w : World) (hr0 : Kd.C k31 w A0 l0.length l0) (hc0 : l0.length ≤ c0) (h : impl_areSeveral.f l0 = some r) :
    Calls Try.prog 38 #[.slice A0 l0.length c0] w fun e w' => e = .returned (.bool r) ∧ Below w.heap.size w w' := by
  obtain rfl := Option.some.inj h
  clear h
  have h1 := fun w => impl_within.calls (l0.length : Int) 1 8 _ w (within_eq _ _ _)
  have eg : ∀ args w, (callFunc 46 args).run Try.prog w = .ok (.enter 46 args) w := enters_of Try.func46 (by kernel_rfl) rfl
  have h2 : ∀ W, Drawn0 w W → Calls Try.prog 45 #[.slice A0 l0.length c0, .func (.func 46) #[] #[]] W fun e w' => e = .returned (.bool (l0.any fun x => !barOk x)) ∧ Below W.heap.size W w' := fun W hW =>
    contains_any 46 #[] eg _ A0 c0 l0 W (Kd.C_below hr0 hW.below) (fun W x _ => noBar W x)
  have H2 := Aside0.mk h2
  clear h2 hr0 hc0
  generalize (l0.any fun x => !barOk x) = b2 at H2
  cases hd : decide (1 ≤ (l0.length : Int) ∧ (l0.length : Int) ≤ 8) with
  | false =>
    rw [hd] at h1
    clear hd
    go_enter Try.func38, Try.ntmps38
    go_wp2_with (go_at_call 44; refine (h1 _).mono ?_; rintro e w' ⟨rfl, hb'⟩)
    go_ret
    exact ⟨rfl, hb'.below⟩
  | true =>
    rw [hd] at h1
    clear hd
    go_enter Try.func38, Try.ntmps38
    go_wp2_with (first | (go_at_call 44; refine (h1 _).mono ?_; rintro e w1 ⟨rfl, hb1⟩) | (go_at_call 45; refine (H2.out _ hb1).mono ?_; rintro e w2 ⟨rfl, hb2⟩))
    go_ret
    exact ⟨by simp, below_then hb1.below hb1.below.size hb2⟩
end Go.Proofs.Ytoplnaobaedciaa.All
