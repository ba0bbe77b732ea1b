/- The law FnBarsCost holds of the program: for every input its call returns true and the input reads afterwards as it read before. Conditions: none. -/
import Derived.WalkKit
import Derived.ProofKit
import Derived.OpenShut
import Derived.ShutString
import Derived.ChangeOld
import Derived.Below
import Derived.SizedLaws
import Derived.Test.YtkoplphcdkmilaaRows
import Derived.Test.YtkoplphcdkmilaaGLaw
namespace Go.Proofs.Ytkoplphcdkmilaa.fnBarsCost
open Go.ChangeShapes Go.WideShapes Go.ChangeAt Go.RowKit
open Go.ChangeMaps (open_string shut_string)
set_option linter.unusedVariables false
theorem own : ownKnob Try.prog.godebug = none := by kernel_rfl
theorem laidOut : laidOutB Try.prog = true := by kernel_rfl
def IsRow (k : IntKind) (w : World) (a : Option Addr) (len cap : Nat) (zs : List Int) : Prop :=
  (a = none ∧ len = 0 ∧ cap = 0 ∧ zs = []) ∨
  ∃ x, a = some x ∧ len ≤ cap ∧ cap ≤ maxLen ∧ zs.length = cap ∧ (∀ i, i < zs.length → w.cell? (x.add i) = some (.int k (zs.getD i 0))) ∧ ∀ n ∈ zs, (Lit.int k n).wf = true
open Go.Proofs.YtkoplphcdkmilaaW.PrintWords Go.Proofs.Ytkoplphcdkmilaa.All in
theorem bytes_of {l : List Int} (h : ∀ x ∈ l, (Lit.int .u8 x).wf = true) : Bytes l := fun i => by
  unfold rd
  rw [List.getD_eq_getElem?_getD]
  cases e : l[i.toNat]? with
  | none => simp
  | some x =>
    have := h x (List.mem_of_getElem? e)
    simp [Lit.wf, IntKind.min, IntKind.max, IntKind.signed, IntKind.bits] at this
    simp only [Option.getD_some]
    omega
open Go.Proofs.YtkoplphcdkmilaaW.PrintWords Go.Proofs.Ytkoplphcdkmilaa.All Go.Proofs.Ytkoplphcdkmilaa.GBar Go.Proofs.Ytkoplphcdkmilaa.PCount in
theorem walk (a0 : Option Addr) (len0 cap0 : Nat) (z0 : List Int) (a1 : Option Addr) (len1 cap1 : Nat) (z1 : List Int) (w : World) (w0 : IsRow .u8 w a0 len0 cap0 z0) (w1 : IsRow .u8 w a1 len1 cap1 z1) :
    Calls Try.prog 3 #[.slice a0 len0 cap0, .slice a1 len1 cap1] w fun e w' => e = .returned (.bool true) ∧ Below w.heap.size w w' := by
  obtain ⟨l0, rfl, hr0, hm0, hw0, hc0⟩ := ReadsInt.ofRowC w0
  obtain ⟨l1, rfl, hr1, hm1, hw1, hc1⟩ := ReadsInt.ofRowC w1
  have hC0 := Kd.C_of_reads (d := (0 : Int)) (h1 := fun _ => rfl) hr0
  have hC1 := Kd.C_of_reads (d := (0 : Int)) (h1 := fun _ => rfl) hr1
  obtain ⟨bb, hbb⟩ : ∃ bb, laws_big.f l0 l1 = some bb := by unfold laws_big.f; split <;> exact ⟨_, rfl⟩
  cases bb with
  | true => exact law_long a0 cap0 l0 a1 cap1 l1 w hC0 hc0 hC1 hc1 hbb
  | false =>
    have b0 := bytes_of hw0
    have b1 := bytes_of hw1
    obtain ⟨W, H, hd⟩ := drawBar_total b0
    obtain ⟨U, V, q, hd2⟩ := drawEat_total b1
    obtain ⟨kd, X, Y, hdl⟩ := drawLines_total b1
    obtain ⟨tr, ok, ht⟩ : ∃ tr ok, impl_CountTrees.f W H = some (tr, ok) := ⟨_, _, counted_trees W H⟩
    obtain ⟨od, one, ho⟩ : ∃ od one, impl_CountOrders.f W H = some (od, one) := ⟨_, _, counted_orders W H⟩
    obtain ⟨ch, le, three, hch⟩ : ∃ ch le three, impl_CheapestToEat.f W H = some (ch, le, three) := ⟨_, _, _, rfl⟩
    obtain ⟨dn, p, five, hfi⟩ : ∃ dn p five, impl_FirstToEat.f U V q = some (dn, p, five) := ⟨_, _, _, rfl⟩
    obtain ⟨cost, seven, hl⟩ : ∃ cost seven, impl_LeastToEat.f U V q = some (cost, seven) := ⟨_, _, rfl⟩
    obtain ⟨ln, nine, hln⟩ : ∃ ln nine, impl_LeastByLines.f X Y = some (ln, nine) := ⟨_, _, rfl⟩
    obtain ⟨ro, hor⟩ : ∃ ro, impl_OrderByLines.f X Y = some (ro, nine) := by
      unfold impl_LeastByLines.f at hln
      unfold impl_OrderByLines.f
      have h := Option.some.inj hln
      by_cases hq : (linesB X && linesB Y) = true
      · rw [if_pos hq] at h ⊢; exact ⟨_, by rw [← (Prod.mk.inj h).2]⟩
      · rw [if_neg hq] at h ⊢; exact ⟨_, by rw [← (Prod.mk.inj h).2]⟩
    have hrows : laws_hRows.f 3000 ro ro = some true := by
      refine hRows_eq ro ?_ ?_
      · unfold impl_OrderByLines.f at hor
        have h := Option.some.inj hor
        by_cases hq : (linesB X && linesB Y) = true
        · rw [if_pos hq] at h
          have hq' := hq
          simp only [Bool.and_eq_true] at hq'
          rw [← (Prod.mk.inj h).1, ordR_eq, List.length_map, order_len hq'.1 hq'.2]
          have := linesB_len hq'.1
          have := linesB_len hq'.2
          omega
        · rw [if_neg hq] at h
          rw [← (Prod.mk.inj h).1]; simp
      · intro l hlm
        unfold impl_OrderByLines.f at hor
        have h := Option.some.inj hor
        by_cases hq : (linesB X && linesB Y) = true
        · rw [if_pos hq] at h
          rw [← (Prod.mk.inj h).1, ordR_eq] at hlm
          obtain ⟨j, _, rfl⟩ := List.mem_map.mp hlm
          unfold rowOf
          split <;> simp
        · rw [if_neg hq] at h
          rw [← (Prod.mk.inj h).1] at hlm
          simp at hlm
    refine law_any a0 cap0 l0 a1 cap1 l1 w hC0 hc0 hC1 hc1 hbb W H hd tr ok ht (by rw [spec_trees]; exact ht) od one ho (by rw [spec_orders]; exact ho) ch le three hch hch U V q hd2 dn p five hfi hfi cost seven hl hl kd 4000 4000 3000 X Y hdl ln nine hln (by rw [specLeast_eq]; exact hln) ro hor (by rw [specOrder_eq]; exact hor) hrows ?_ ?_
    · intro h1
      subst h1
      rw [counted_orders] at ho
      rw [counted_trees] at ht
      have ho := Option.some.inj ho
      have ht := Option.some.inj ht
      by_cases hc : okB W H ∧ cnt true W H ≤ 1000000000000000
      · rw [if_pos hc] at ho
        obtain ⟨a, b, rfl, rfl, ha, hb⟩ := okB_of hc.1
        obtain ⟨e1, e2⟩ := cnt_nat hc.2
        have hle := trees_le _ a b (Nat.le_refl _) ha.1 hb.1
        have e3 := cnt_of (o := false) (a := a) (b := b) (by omega)
        rw [if_pos ⟨hc.1, by rw [e3]; omega⟩] at ht
        rw [← (Prod.mk.inj ht).2, ← (Prod.mk.inj ht).1, ← (Prod.mk.inj ho).1, e1, e3]
        exact ⟨rfl, by omega⟩
      · rw [if_neg hc] at ho
        have := (Prod.mk.inj ho).2
        simp at this
    · intro h1
      subst h1
      rw [counted_trees] at ht
      have ht := Option.some.inj ht
      by_cases hc : okB W H ∧ cnt false W H ≤ 1000000000000000
      · rw [if_pos hc] at ht
        rw [← (Prod.mk.inj ht).1]
        exact ⟨by have := (cnt_in false W H hc.1.1.1 hc.1.2.1).1; omega, isBar_true hc.1⟩
      · rw [if_neg hc] at ht
        have := (Prod.mk.inj ht).2
        simp at this
set_option maxRecDepth 100000 in
theorem lifted (os : Os) (started : os.Started) (H : Type) (enc : TypeId × Value → H) :
    ReturnsInHanded {} Try.checked os 3 .any (Rows.fnBarsCostSpec.pre6 enc Try.prog Try.f3 Rows.fnBarsCostRow.domain false) (Rows.fnBarsCostSpec.post enc Try.prog Try.f3 false true false false) := by
  refine returnsInHanded_of_change_sized (C := Try.checked) own started (by kernel_rfl) Try.func3
    (ChangeSpec.witness6 (enc := enc) (C := Try.checked) false ⟨#[], #[.slice none 0 0, .slice none 0 0], []⟩ 8 (by kernel_rfl) (by kernel_rfl) (by kernel_rfl) (by kernel_rfl)) ?_
  intro W base args ds gs before hval0 hW hcnd hsz0 _
  have hval : ∀ (j : Nat) t v, Try.f3.params[j]? = some t → args[j]? = some v → Value.okWide Try.prog W .any base t v := hval0
  have hW' := hW
  obtain ⟨p, q, hA0, hV, rfl, hfz, hnd⟩ := hW
  have hA : DataW.TrodAll enc Try.prog W 0 (fun _ => true) true Try.f3.params.toList args.toList ds p := hA0
  rw [Try.params3] at hA hval
  obtain ⟨v0, vs0, d0, ds0, p0, q0, hargs, rfl, rfl, h0, r0⟩ := trodAll_cons hA
  obtain ⟨v1, vs1, d1, ds1, p1, q1, rfl, rfl, rfl, h1, r1⟩ := trodAll_cons r0
  obtain ⟨rfl, rfl, rfl⟩ := trodAll_nil r1
  obtain rfl : args = #[v0, v1] := by cases args; simp_all
  obtain ⟨rfl, rfl⟩ := trodVars_none hV
  obtain ⟨a0, len0, cap0, rfl⟩ := okWide_slice Try.underlying22 (hval 0 22 v0 rfl rfl)
  have k0 := h0
  have lt0 : ∀ x ∈ p0, x.block < W.heap.size := by obtain ⟨m, hm⟩ := k0; exact DataW.trod_lt m _ _ _ hm
  obtain ⟨z0, w0⟩ : ∃ zs, IsRow .u8 W a0 len0 cap0 zs := by
    obtain ⟨fuel, hf⟩ := h0
    rcases open_ints Try.underlying22 Try.underlying5 (by kernel_rfl) hf with ⟨hcs, _⟩ | ⟨x, l, c, zs, hcs, _, hl, hm, hz, _, hcell, hwz⟩
    · simp [Value.cells] at hcs
      obtain ⟨rfl, rfl, rfl⟩ := hcs
      exact ⟨[], .inl ⟨rfl, rfl, rfl, rfl⟩⟩
    · simp [Value.cells] at hcs
      obtain ⟨rfl, rfl, rfl⟩ := hcs
      exact ⟨zs, .inr ⟨_, rfl, hl, hm, by simpa using hz, hcell, hwz⟩⟩
  obtain ⟨a1, len1, cap1, rfl⟩ := okWide_slice Try.underlying22 (hval 1 22 v1 rfl rfl)
  have k1 := h1
  have lt1 : ∀ x ∈ p1, x.block < W.heap.size := by obtain ⟨m, hm⟩ := k1; exact DataW.trod_lt m _ _ _ hm
  obtain ⟨z1, w1⟩ : ∃ zs, IsRow .u8 W a1 len1 cap1 zs := by
    obtain ⟨fuel, hf⟩ := h1
    rcases open_ints Try.underlying22 Try.underlying5 (by kernel_rfl) hf with ⟨hcs, _⟩ | ⟨x, l, c, zs, hcs, _, hl, hm, hz, _, hcell, hwz⟩
    · simp [Value.cells] at hcs
      obtain ⟨rfl, rfl, rfl⟩ := hcs
      exact ⟨[], .inl ⟨rfl, rfl, rfl, rfl⟩⟩
    · simp [Value.cells] at hcs
      obtain ⟨rfl, rfl, rfl⟩ := hcs
      exact ⟨zs, .inr ⟨_, rfl, hl, hm, by simpa using hz, hcell, hwz⟩⟩
  clear hA0 hval0 hsz0
  refine (walk a0 len0 cap0 z0 a1 len1 cap1 z1 W w0 w1).mono fun e W' ⟨he, bel⟩ => ?_
  subst he
  exact ⟨_, rfl, _, _, _, [], _, [], hW', trodAll_mk1 (shut_bool Try.underlying4 _), (trodAll_cons_mk (Below.trod laidOut (by kernel_rfl) (of_decide_eq_true (by kernel_rfl)) k0 bel lt0) (trodAll_cons_mk (Below.trod laidOut (by kernel_rfl) (of_decide_eq_true (by kernel_rfl)) k1 bel lt1) trodAll_mk0)), rfl, bel.frame _, fun h => by cases h⟩
theorem over : Rows.fnBarsCostRow.holds Try.pinned (OpenSpec.ofChange Rows.fnBarsCostSpec) :=
  OpenClaim.holds_of_wide 3 Try.f3 rfl rfl rfl rfl rfl rfl rfl ⟨rfl, rfl, rfl, rfl, rfl⟩ rfl rfl rfl rfl rfl (by kernel_rfl) Try.func3 (by kernel_rfl)
    (of_decide_eq_true (by kernel_rfl)) (by unfold Func.isWrapper; first | (rw [if_pos (by decide +kernel)]; kernel_rfl) | (rw [if_neg (by decide +kernel)]; exact ⟨rfl, rfl⟩))
    (fun os started H enc _ => lifted os started H enc)
theorem proved : Rows.FnBarsCostSaid := over
#print axioms proved
end Go.Proofs.Ytkoplphcdkmilaa.fnBarsCost
namespace Go.Proofs.Ytkoplphcdkmilaa
theorem fnBarsCost_holds : Rows.FnBarsCostSaid := fnBarsCost.proved
end Go.Proofs.Ytkoplphcdkmilaa
