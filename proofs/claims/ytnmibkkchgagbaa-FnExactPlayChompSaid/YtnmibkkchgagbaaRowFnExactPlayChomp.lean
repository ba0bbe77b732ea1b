/- The law FnExactPlayChomp holds of the program: for every input its call returns true and the input reads afterwards as it read before. Conditions: none. -/
import Derived.Test.YtnmibkkchgagbaaRows
import Derived.Test.YtnmibkkchgagbaaPurePlay
import Derived.Test.YtnmibkkchgagbaaGOpenSS
import Derived.WalkKit
import Derived.ProofKit
import Derived.OpenShut
import Derived.ShutString
import Derived.ChangeOld
import Derived.Below
import Derived.SizedLaws
import Derived.Test.YtnmibkkchgagbaaWSized
namespace Go.Proofs.Ytnmibkkchgagbaa.fnExactPlayChomp
open Go.ChangeShapes Go.WideShapes Go.ChangeAt Go.RowKit
open Go.ChangeMaps (open_string shut_string)
set_option linter.unusedVariables false
theorem own : ownKnob Try.prog.godebug = none := by kernel_rfl
theorem laidOut : laidOutB Try.prog = true := by kernel_rfl
def IsRow (k : IntKind) (w : World) (a : Option Addr) (len cap : Nat) (zs : List Int) : Prop :=
  (a = none ∧ len = 0 ∧ cap = 0 ∧ zs = []) ∨
  ∃ x, a = some x ∧ len ≤ cap ∧ cap ≤ maxLen ∧ zs.length = cap ∧ (∀ i, i < zs.length → w.cell? (x.add i) = some (.int k (zs.getD i 0))) ∧ ∀ n ∈ zs, (Lit.int k n).wf = true
open Go.Proofs.YtnmibkkchgagbaaW.PrintWords in
theorem walk (a0 : Option Addr) (len0 cap0 : Nat) (z0 : List Int) (a1 : Option Addr) (len1 cap1 : Nat) (l1 : List (List Int)) (w : World) (w0 : IsRow .i64 w a0 len0 cap0 z0) (e1 : l1.length = len1) (hC : Kd.C (Kd.slice 3 (Kd.int .i64)) w a1 len1 l1) (hc1 : len1 ≤ cap1) :
    Calls Try.prog 3 #[.slice a0 len0 cap0, .slice a1 len1 cap1] w fun e w' => e = .returned (.bool true) ∧ Below w.heap.size w w' := by
  obtain ⟨l0, rfl, hr0, hm0, hw0, hc0⟩ := ReadsInt.ofRowC w0
  subst e1
  have hM : l1.length ≤ 9223372036854775807 := hC.2.1
  have hr : ∀ r ∈ l1, r.length ≤ 9223372036854775807 := fun r hr => by
    obtain ⟨i, hi, rfl⟩ := List.mem_iff_getElem.1 hr
    obtain ⟨ad, A, c, _, _, _, h⟩ := All.at_L1 hC (i : Int) (by omega) (by omega)
    have := h.2.1
    rwa [PurePlay.rd_row hi] at this
  by_cases hl : (l0.length : Int) > 1048576
  · exact All.laws_FnExactPlayChomp.long _ _ l0 _ _ l1 w hl
  · by_cases h0 : 0 ≤ PurePlay.szA l1
    · obtain ⟨k, k1, y1, k2, Y1, m, R2, h⟩ := PurePlay.ans l0 hl l1 hM hr h0
      exact All.laws_FnExactPlayChomp.calls k _ _ l0 _ _ l1 _ _ _ k1 y1 k2 Y1 m R2 w (Kd.C_of_reads (d := (0 : Int)) (h1 := fun _ => rfl) hr0) hc0 hC hc1 hl h
    · obtain ⟨k, hk⟩ := (PurePlay.sz_ev l1 hM hr).rounds
      exact All.laws_FnExactPlayChomp.many k _ _ l0 _ _ l1 _ w hC hc1 hl hk (by omega)
set_option maxRecDepth 100000 in
theorem lifted (os : Os) (started : os.Started) (H : Type) (enc : TypeId × Value → H) :
    ReturnsInHanded {} Try.checked os 3 .any (Rows.fnExactPlayChompSpec.pre6 enc Try.prog Try.f3 Rows.fnExactPlayChompRow.domain false) (Rows.fnExactPlayChompSpec.post enc Try.prog Try.f3 false true false false) := by
  refine returnsInHanded_of_change_sized (C := Try.checked) own started (by kernel_rfl) Try.func3
    (ChangeSpec.witness6 (enc := enc) (C := Try.checked) false ⟨#[], #[.slice none 0 0, .slice none 0 0], []⟩ 8 (by kernel_rfl) (by kernel_rfl) (by kernel_rfl) (by kernel_rfl)) ?_
  intro W base args ds gs before hval0 hW hcnd hsz0 _
  have hval : ∀ (j : Nat) t v, Try.f3.params[j]? = some t → args[j]? = some v → Value.okWide Try.prog W .any base t v := hval0
  have hW' := hW
  obtain ⟨p, q, hA0, hV, rfl, hfz, hnd⟩ := hW
  have hA : DataW.TrodAll enc Try.prog W 0 (fun _ => true) true Try.f3.params.toList args.toList ds p := hA0
  rw [Try.params3] at hA hval
  obtain ⟨v0, vs0, d0, ds0, p0, q0, hargs, rfl, rfl, h0, r0⟩ := trodAll_cons hA
  obtain ⟨v1, vs1, d1, ds1, p1, q1, rfl, rfl, rfl, h1, r1⟩ := trodAll_cons r0
  obtain ⟨rfl, rfl, rfl⟩ := trodAll_nil r1
  obtain rfl : args = #[v0, v1] := by cases args; simp_all
  obtain ⟨rfl, rfl⟩ := trodVars_none hV
  obtain ⟨a0, len0, cap0, rfl⟩ := okWide_slice Try.underlying22 (hval 0 22 v0 rfl rfl)
  have k0 := h0
  have lt0 : ∀ x ∈ p0, x.block < W.heap.size := by obtain ⟨m, hm⟩ := k0; exact DataW.trod_lt m _ _ _ hm
  obtain ⟨z0, w0⟩ : ∃ zs, IsRow .i64 W a0 len0 cap0 zs := by
    obtain ⟨fuel, hf⟩ := h0
    rcases open_ints Try.underlying22 Try.underlying3 (by kernel_rfl) hf with ⟨hcs, _⟩ | ⟨x, l, c, zs, hcs, _, hl, hm, hz, _, hcell, hwz⟩
    · simp [Value.cells] at hcs
      obtain ⟨rfl, rfl, rfl⟩ := hcs
      exact ⟨[], .inl ⟨rfl, rfl, rfl, rfl⟩⟩
    · simp [Value.cells] at hcs
      obtain ⟨rfl, rfl, rfl⟩ := hcs
      exact ⟨zs, .inr ⟨_, rfl, hl, hm, by simpa using hz, hcell, hwz⟩⟩
  obtain ⟨a1, len1, cap1, rfl⟩ := okWide_slice Try.underlying23 (hval 1 23 v1 rfl rfl)
  have k1 := h1
  have lt1 : ∀ x ∈ p1, x.block < W.heap.size := by obtain ⟨m, hm⟩ := k1; exact DataW.trod_lt m _ _ _ hm
  obtain ⟨l1, e1, hC1, hc1⟩ : ∃ l : List (List Int), l.length = len1 ∧ Go.Proofs.YtnmibkkchgagbaaW.PrintWords.Kd.C (Go.Proofs.YtnmibkkchgagbaaW.PrintWords.Kd.slice 3 (Go.Proofs.YtnmibkkchgagbaaW.PrintWords.Kd.int .i64)) W a1 len1 l ∧ len1 ≤ cap1 := by
    obtain ⟨fuel, hf⟩ := h1
    exact G.open_ss Try.underlying23 Try.underlying22 Try.underlying3 (by kernel_rfl) (by kernel_rfl) hf
  clear hA0 hval0 hsz0
  refine (walk a0 len0 cap0 z0 a1 len1 cap1 l1 W w0 e1 hC1 hc1).mono fun e W' ⟨he, bel⟩ => ?_
  subst he
  exact ⟨_, rfl, _, _, _, [], _, [], hW', trodAll_mk1 (shut_bool Try.underlying4 _), (trodAll_cons_mk (Below.trod laidOut (by kernel_rfl) (of_decide_eq_true (by kernel_rfl)) k0 bel lt0) (trodAll_cons_mk (Below.trod laidOut (by kernel_rfl) (of_decide_eq_true (by kernel_rfl)) k1 bel lt1) trodAll_mk0)), rfl, bel.frame _, fun h => by cases h⟩
theorem over : Rows.fnExactPlayChompRow.holds Try.pinned (OpenSpec.ofChange Rows.fnExactPlayChompSpec) :=
  OpenClaim.holds_of_wide 3 Try.f3 rfl rfl rfl rfl rfl rfl rfl ⟨rfl, rfl, rfl, rfl, rfl⟩ rfl rfl rfl rfl rfl (by kernel_rfl) Try.func3 (by kernel_rfl)
    (of_decide_eq_true (by kernel_rfl)) (by unfold Func.isWrapper; first | (rw [if_pos (by decide +kernel)]; kernel_rfl) | (rw [if_neg (by decide +kernel)]; exact ⟨rfl, rfl⟩))
    (fun os started H enc _ => lifted os started H enc)
theorem proved : Rows.FnExactPlayChompSaid := over
#print axioms proved
end Go.Proofs.Ytnmibkkchgagbaa.fnExactPlayChomp
namespace Go.Proofs.Ytnmibkkchgagbaa
/-- The row, under a short name, for the claim. -/
theorem fnExactPlayChomp_holds : Rows.FnExactPlayChompSaid := fnExactPlayChomp.proved
end Go.Proofs.Ytnmibkkchgagbaa
