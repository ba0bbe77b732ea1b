/- Texts of this claim joined, in the order in which they build: GOrd0, GOrd1, GSwap, GRot, PMerge, GMerge. -/
import Derived.Shelf.SlSortCmp.Insertion1
import Derived.Test.YtkoplphcdkmilaaK20
section
namespace Go.Proofs.Ytkoplphcdkmilaa.All
open Go.Shelf Go.Lib Go.Sort Go.RowKit Go.Proofs.YtkoplphcdkmilaaW.PrintWords Go.Proofs.YtkoplphcdkmilaaW.PrintLast Go.Proofs.YtkoplphcdkmilaaW.PrintMore GSteps
set_option linter.unusedVariables false
set_option linter.unusedSimpArgs false

theorem al_cell {W : World} {a : Addr} {v : Value} (o : Obj) (h : W.cell? a = some v) : (W.alloc o).cell? a = some v := (World.grownBy_alloc W o none).cell h (by simp)
theorem al_grow (W : World) (o : Obj) : (W.alloc o).drew = grow (W.drewN 1) #[o] := by
  rw [← alloc_eq_grow]; rfl

set_option maxHeartbeats 8000000 in
set_option maxRecDepth 100000 in
theorem cost_any0 (W : World) (a0 : Addr) (A1 : Option Addr) (n0 n1 c0 c1 p2 p3 b c k : Nat) (x : Int)
    (h2 : W.cell? ⟨p2, 0, none⟩ = some (.slice (some a0) n0 c0)) (h3 : W.cell? ⟨p3, 0, none⟩ = some (.slice A1 n1 c1))
    (e0 : W.cell? ⟨b, 0, none⟩ = some (.int .i64 0)) (e1 : W.cell? ⟨b, 1, none⟩ = some (.int .i64 k)) (hk : k < n0) (hx : W.cell? (a0.add k) = some (.int .i64 x)) (hl : n0 ≤ 4096) :
    Calls Try.prog 48 #[.slice (some ⟨b, 0, none⟩) 2 c, .pointer (some ⟨p2, 0, none⟩), .pointer (some ⟨p3, 0, none⟩)] W fun e w' => e = .returned (.int .i64 x) ∧ ∃ q os, w' = grow (W.drewN q) os := by
  have hkz : (k : Int) < (n0 : Int) := by omega
  have hk0 : (0 : Int) ≤ (k : Int) := by omega
  have hkn : ((k : Int)).toNat = k := by omega
  have hx' : (W.alloc (.cells #[.slice (some a0) n0 c0, .slice A1 n1 c1] 41)).drew.cell? (a0.add k) = some (.int .i64 x) := al_cell _ hx
  have e0' : (W.alloc (.cells #[.slice (some a0) n0 c0, .slice A1 n1 c1] 41)).drew.cell? ⟨b, 0, none⟩ = some (.int .i64 0) := al_cell _ e0
  have e1' : (W.alloc (.cells #[.slice (some a0) n0 c0, .slice A1 n1 c1] 41)).drew.cell? ⟨b, 1, none⟩ = some (.int .i64 k) := al_cell _ e1
  have hx2 : (W.alloc (.cells #[.slice (some a0) n0 c0, .slice A1 n1 c1] 41)).cell? (a0.add k) = some (.int .i64 x) := al_cell _ hx
  go_enter Try.func48, Try.ntmps48
  go_wp2
  go_region
  go_wp2
  go_ret
  exact ⟨rfl, 1, _, al_grow W _⟩
set_option maxHeartbeats 8000000 in
set_option maxRecDepth 100000 in
theorem cost_any1 (W : World) (a0 : Addr) (A1 : Option Addr) (n0 n1 c0 c1 p2 p3 b c k : Nat) (x : Int)
    (h2 : W.cell? ⟨p2, 0, none⟩ = some (.slice A1 n1 c1)) (h3 : W.cell? ⟨p3, 0, none⟩ = some (.slice (some a0) n0 c0))
    (e0 : W.cell? ⟨b, 0, none⟩ = some (.int .i64 1)) (e1 : W.cell? ⟨b, 1, none⟩ = some (.int .i64 k)) (hk : k < n0) (hx : W.cell? (a0.add k) = some (.int .i64 x)) (hl : n0 ≤ 4096) :
    Calls Try.prog 48 #[.slice (some ⟨b, 0, none⟩) 2 c, .pointer (some ⟨p2, 0, none⟩), .pointer (some ⟨p3, 0, none⟩)] W fun e w' => e = .returned (.int .i64 x) ∧ ∃ q os, w' = grow (W.drewN q) os := by
  have hkz : (k : Int) < (n0 : Int) := by omega
  have hk0 : (0 : Int) ≤ (k : Int) := by omega
  have hkn : ((k : Int)).toNat = k := by omega
  have hx' : (W.alloc (.cells #[.slice A1 n1 c1, .slice (some a0) n0 c0] 41)).drew.cell? (a0.add k) = some (.int .i64 x) := al_cell _ hx
  have e0' : (W.alloc (.cells #[.slice A1 n1 c1, .slice (some a0) n0 c0] 41)).drew.cell? ⟨b, 0, none⟩ = some (.int .i64 1) := al_cell _ e0
  have e1' : (W.alloc (.cells #[.slice A1 n1 c1, .slice (some a0) n0 c0] 41)).drew.cell? ⟨b, 1, none⟩ = some (.int .i64 k) := al_cell _ e1
  have hx2 : (W.alloc (.cells #[.slice A1 n1 c1, .slice (some a0) n0 c0] 41)).cell? (a0.add k) = some (.int .i64 x) := al_cell _ hx
  go_enter Try.func48, Try.ntmps48
  go_wp2
  go_region
  go_wp2
  go_ret
  exact ⟨rfl, 1, _, al_grow W _⟩
end Go.Proofs.Ytkoplphcdkmilaa.All
end
section
namespace Go.Proofs.Ytkoplphcdkmilaa.All
open Go.Shelf Go.Lib Go.Sort Go.RowKit Go.Proofs.YtkoplphcdkmilaaW.PrintWords Go.Proofs.YtkoplphcdkmilaaW.PrintLast Go.Proofs.YtkoplphcdkmilaaW.PrintMore GSteps
set_option linter.unusedVariables false
set_option linter.unusedSimpArgs false

section
variable {P : Program} {ops : Array Oper} {Q : Exit → Act → World → Prop}
theorem goesT_ {oi : Oper} {N : Option Tmp} {a : Act} {w : World} {K : Act → World → Prop} {f : FuncId} {fn : Func} {cv : Operand} {cb : Array Value} {aas : Array Operand} {ts : Array TypeId} (hf : P.funcs[f]? = some fn) (hname : (fn.name == "runtime.NumGoroutine") = false) (hb : fn.body.isSome = true) (args : Array Value)
    (hw : Region.wanted oi (yielded ops a.tmps) = true) (hN : oi.dst = N) (hop : oi.op = .call { callee := .value cv, args := aas, argTypes := ts }) (hv : a.eval cv = .func (.func f) #[] cb) (hargs : aas.map a.eval = args)
    (h : Calls P f (args ++ cb) w fun e w' => ∃ v, e = .returned v ∧ K (a.put N v) w') : if Region.wanted oi (yielded ops a.tmps) = true then Oper.wp P oi a w K Q else K (a.put N undef) w := by
  refine call_ f (args ++ cb) hw hN ?_ h
  have he := enters_ hf hname hb (args ++ cb) w
  unfold execOp
  simp [hop, resolve, Deferred.ofValue, invoke, hv, hargs, he]
end
theorem gg_ (W : World) (n q : Nat) (os os' : Array Obj) : grow ((grow (W.drewN n) os).drewN q) os' = grow (W.drewN (n + q)) (os ++ os') := by
  show grow (grow ((W.drewN n).drewN q) os) os' = _; rw [grow_grow, World.drewN_drewN]

set_option maxHeartbeats 8000000 in
set_option maxRecDepth 100000 in
theorem cmp_any (W : World) (va vb : Value) (pf p2 p3 : Nat) (x y : Int)
    (hf : W.cell? ⟨pf, 0, none⟩ = some (.func (.func 48) #[] #[.pointer (some ⟨p2, 0, none⟩), .pointer (some ⟨p3, 0, none⟩)]))
    (ha : ∀ n os, Calls Try.prog 48 #[va, .pointer (some ⟨p2, 0, none⟩), .pointer (some ⟨p3, 0, none⟩)] (grow (W.drewN n) os) fun e w' => e = .returned (.int .i64 x) ∧ ∃ q os', w' = grow ((grow (W.drewN n) os).drewN q) os')
    (hb : ∀ n os, Calls Try.prog 48 #[vb, .pointer (some ⟨p2, 0, none⟩), .pointer (some ⟨p3, 0, none⟩)] (grow (W.drewN n) os) fun e w' => e = .returned (.int .i64 y) ∧ ∃ q os', w' = grow ((grow (W.drewN n) os).drewN q) os')
    (hx : 0 ≤ x ∧ x ≤ 100) (hy : 0 ≤ y ∧ y ≤ 100) :
    Calls Try.prog 50 #[va, vb, .pointer (some ⟨pf, 0, none⟩)] W fun e w' => e = .returned (.int .i64 (y - x)) ∧ ∃ q os, w' = grow (W.drewN q) os := by
  have hl : ∀ n os, (grow (W.drewN n) os).cell? ⟨pf, 0, none⟩ = some (.func (.func 48) #[] #[.pointer (some ⟨p2, 0, none⟩), .pointer (some ⟨p3, 0, none⟩)]) := fun n os => by
    rw [cell?_grow _ _ _ (by exact World.block_lt_of_cell? W _ hf)]; exact hf
  have hw : IntKind.i64.wrap (y - x) = y - x := by rw [IntKind.wrap_i64]; omega
  have eg : ∀ args w, (callFunc 48 args).run Try.prog w = .ok (.enter 48 args) w := enters_of Try.func48 (by kernel_rfl) rfl
  go_enter Try.func50, Try.ntmps50
  go_wp2
  refine start_ (n := 8) (S := fun w' => w'.cell? ⟨pf, 0, none⟩ = some (.func (.func 48) #[] #[.pointer (some ⟨p2, 0, none⟩), .pointer (some ⟨p3, 0, none⟩)])) (ds := []) _ (by kernel_rfl) rfl rfl hf (fun hHeld => ?_)
  refine pureS_ 1 (N := some 7) (v := ?_) (a' := ?_) rfl rfl (by kernel_rfl) (fun _ _ _ h => h) (Or.inl ⟨by rfl, ?_⟩) ?_ ?_
  rotate_left
  · intro w'; go_simp; with_reducible rfl
  rotate_left
  · simp only [Act.put, List.setIfInBounds_toArray, List.set_cons_zero, List.set_cons_succ, i64_w, i32_w]; rfl
  refine pureS_ 4 (N := some 10) (v := ?_) (a' := ?_) rfl rfl (by kernel_rfl) (fun _ _ _ h => h) (Or.inl ⟨by rfl, ?_⟩) ?_ ?_
  rotate_left
  · intro w'; go_simp; with_reducible rfl
  rotate_left
  · simp only [Act.put, List.setIfInBounds_toArray, List.set_cons_zero, List.set_cons_succ, i64_w, i32_w]; rfl
  refine takeS_ 0 (N := some 6) (v := ?_) (a' := ?_) rfl rfl (by kernel_rfl) (fun _ _ _ h => h) (Or.inl ⟨by rfl, ?_⟩) hHeld ?_ ?_
  rotate_left
  · intro w' s0; go_simp; with_reducible rfl
  rotate_left
  · simp only [Act.put, List.setIfInBounds_toArray, List.set_cons_zero, List.set_cons_succ, i64_w, i32_w]; rfl
  refine takeS_ 3 (N := some 9) (v := ?_) (a' := ?_) rfl rfl (by kernel_rfl) (fun _ _ _ h => h) (Or.inl ⟨by rfl, ?_⟩) hHeld ?_ ?_
  rotate_left
  · intro w' s0; go_simp; with_reducible rfl
  rotate_left
  · simp only [Act.put, List.setIfInBounds_toArray, List.set_cons_zero, List.set_cons_succ, i64_w, i32_w]; rfl
  rw [show W.drew = grow (W.drewN 1) #[] from (grow_empty _).symm]
  refine oneS_ 2 (N := some 8) rfl rfl (by kernel_rfl) (by decide) (fun K hK => ?_)
  refine goesT_ (f := 48) (cb := #[.pointer (some ⟨p2, 0, none⟩), .pointer (some ⟨p3, 0, none⟩)]) Try.func48 (by kernel_rfl) rfl #[vb] (by rfl) rfl rfl (by rfl) (by (try simp only [List.map_toArray, List.map_cons, List.map_nil]); first | done | rfl) ?_
  refine (hb 1 #[]).mono ?_
  rintro e w' ⟨rfl, q2, os2, rfl⟩
  refine ⟨_, rfl, ?_⟩
  rw [gg_]
  refine hK.out _ _ (hl _ _) (fun hHeld => ?_)
  clear hK K
  refine norm_ (a' := ?_) ?_ ?_
  rotate_left
  · show Act.put _ (some 8) _ = _; simp only [Act.put, List.setIfInBounds_toArray, List.set_cons_zero, List.set_cons_succ, i64_w, i32_w]; rfl
  refine oneS_ 5 (N := some 11) rfl rfl (by kernel_rfl) (by decide) (fun K hK => ?_)
  refine goesT_ (f := 48) (cb := #[.pointer (some ⟨p2, 0, none⟩), .pointer (some ⟨p3, 0, none⟩)]) Try.func48 (by kernel_rfl) rfl #[va] (by rfl) rfl rfl (by rfl) (by (try simp only [List.map_toArray, List.map_cons, List.map_nil]); first | done | rfl) ?_
  refine (ha _ _).mono ?_
  rintro e w' ⟨rfl, q5, os5, rfl⟩
  refine ⟨_, rfl, ?_⟩
  rw [gg_]
  refine hK.out _ _ (hl _ _) (fun hHeld => ?_)
  clear hK K
  refine norm_ (a' := ?_) ?_ ?_
  rotate_left
  · show Act.put _ (some 11) _ = _; simp only [Act.put, List.setIfInBounds_toArray, List.set_cons_zero, List.set_cons_succ, i64_w, i32_w]; rfl
  refine pureS_ 6 (N := some 12) (v := ?_) (a' := ?_) rfl rfl (by kernel_rfl) (fun _ _ _ h => h) (Or.inl ⟨by rfl, ?_⟩) ?_ ?_
  rotate_left
  · intro w'; go_simp; with_reducible rfl
  rotate_left
  · simp only [Act.put, List.setIfInBounds_toArray, List.set_cons_zero, List.set_cons_succ, i64_w, i32_w]; rfl
  refine pureS_ 7 (N := some 5) (v := ?_) (a' := ?_) rfl rfl (by kernel_rfl) (fun _ _ _ h => h) (Or.inl ⟨by rfl, ?_⟩) ?_ ?_
  rotate_left
  · intro w'; go_simp; with_reducible rfl
  rotate_left
  · simp only [Act.put, List.setIfInBounds_toArray, List.set_cons_zero, List.set_cons_succ, i64_w, i32_w]; rfl
  refine done_ (by kernel_rfl) ?_
  go_wp2
  go_ret
  exact ⟨rfl, _, _, rfl⟩

end Go.Proofs.Ytkoplphcdkmilaa.All
end
section
namespace Go.Proofs.Ytkoplphcdkmilaa.All
open Go.Shelf Go.Lib Go.Sort Go.RowKit Go.Proofs.YtkoplphcdkmilaaW.PrintWords Go.Proofs.YtkoplphcdkmilaaW.PrintLast Go.Proofs.YtkoplphcdkmilaaW.PrintMore GSteps
set_option linter.unusedVariables false
set_option linter.unusedSimpArgs false
variable {α : Type} [Inhabited α]

def swR (d : Array α) (a b : Nat) : Nat → Array α
  | 0 => d
  | k + 1 => swp (swR d a b k) (a + k) (b + k)
theorem size_swR (d : Array α) (a b k : Nat) : (swR d a b k).size = d.size := by
  induction k with
  | zero => rfl
  | succ k ih => show (swp _ _ _).size = _; rw [size_swp]; exact ih

set_option maxHeartbeats 8000000 in
set_option maxRecDepth 100000 in
theorem swapRange_any (enc : α → Value) (blk off cap a b n : Nat) (cv : Value) (d0 d : Array α) (w0 w : World) (R : Row1 enc w0 blk off d0) (hs : d0.size = d.size) (S : SW enc w0 blk off d w) (ha : a + n ≤ d.size) (hb : b + n ≤ d.size) (hsz : d.size ≤ 4096) :
    Calls Try.prog 78 #[.slice (some ⟨blk, off, none⟩) d.size cap, .int .i64 a, .int .i64 b, .int .i64 n, cv] w fun e w' => e = .returned (.tuple #[]) ∧ SW enc w0 blk off (swR d a b n) w' := by
  have hcl0 := R.hO.cells
  simp only [Value.cells] at hcl0
  have hst := R.hO.store Try.prog
  have S0 : Aside (SW enc w0 blk off d w) := S
  clear S
  go_enter Try.func78, Try.ntmps78
  go_wp2
  go_loopg [10] n (fun g1 vi wr => ∃ i : Nat, vi = .int .i64 i ∧ i ≤ n ∧ n - i ≤ g1 ∧ Aside (SW enc w0 blk off (swR d a b i) wr))
  case atStart => exact ⟨0, rfl, Nat.zero_le _, by omega, S0⟩
  case round =>
    clear S0
    obtain ⟨i, rfl, hin, hg1, S1⟩ := hrel
    by_cases hlt : i < n
    · have hltz : (i : Int) < (n : Int) := by omega
      obtain ⟨dk, hdk⟩ : ∃ q, q = swR d a b i := ⟨_, rfl⟩
      have hsk : dk.size = d.size := by rw [hdk, size_swR]
      rw [← hdk] at S1
      have pi0 : (0 : Int) ≤ (a : Int) + (i : Int) := by omega
      have pj0 : (0 : Int) ≤ (b : Int) + (i : Int) := by omega
      have pi1 : (a : Int) + (i : Int) < (d.size : Int) := by omega
      have pj1 : (b : Int) + (i : Int) < (d.size : Int) := by omega
      have ri : IntKind.i64.wrap ((a : Int) + (i : Int)) = (a : Int) + (i : Int) := by rw [IntKind.wrap_i64]; omega
      have rj : IntKind.i64.wrap ((b : Int) + (i : Int)) = (b : Int) + (i : Int) := by rw [IntKind.wrap_i64]; omega
      have ti : ((a : Int) + (i : Int)).toNat = a + i := by omega
      have tj : ((b : Int) + (i : Int)).toNat = b + i := by omega
      obtain ⟨x, hx⟩ : ∃ x, x = dk[(a + i)]! := ⟨_, rfl⟩
      obtain ⟨y, hy⟩ : ∃ x, x = dk[(b + i)]! := ⟨_, rfl⟩
      have S3 : Aside (SW enc w0 blk off (swp dk (a + i) (b + i)) ((wr.setCell ⟨blk, off + (a + i), none⟩ (enc y)).setCell ⟨blk, off + (b + i), none⟩ (enc x)).drew) := by rw [hx, hy]; exact S1.out.swapped R (a + i) (b + i) (by omega) (by omega)
      have c1a := S1.out.c1 R (by omega) (a + i) (by omega)
      have c1b := S1.out.c1 R (by omega) (b + i) (by omega)
      have f1a := S1.out.f1 R (by omega) (a + i) (by omega)
      have f1b := S1.out.f1 R (by omega) (b + i) (by omega)
      obtain ⟨u, c1c⟩ := S1.out.c2 R (by omega) (a + i) (b + i) (by omega) (by omega) (enc y)
      rw [← hx] at c1a
      rw [← hy] at c1b
      clear S1 hx hy
      go_wp2
      go_region
      clear c1a c1b c1c f1a f1b
      generalize ((wr.setCell ⟨blk, off + (a + i), none⟩ (enc y)).setCell ⟨blk, off + (b + i), none⟩ (enc x)).drew = w3 at S3 ⊢
      go_wp2
      go_roundg (n - (i + 1))
      case measure => omega
      case rel => exact ⟨i + 1, by first | rfl | go_num, by omega, by omega, (by show Aside (SW enc w0 blk off (swp (swR d a b i) (a + i) (b + i)) w3); rw [← hdk]; exact S3)⟩
    · have hltz : ¬ (i : Int) < (n : Int) := by omega
      obtain rfl : i = n := by omega
      go_wp2
      go_end0
      exact ⟨rfl, S1.out⟩
end Go.Proofs.Ytkoplphcdkmilaa.All
end
section
namespace Go.Proofs.Ytkoplphcdkmilaa.All
open Go.Shelf Go.Lib Go.Sort Go.RowKit Go.Proofs.YtkoplphcdkmilaaW.PrintWords Go.Proofs.YtkoplphcdkmilaaW.PrintLast Go.Proofs.YtkoplphcdkmilaaW.PrintMore GSteps
set_option linter.unusedVariables false
set_option linter.unusedSimpArgs false
variable {α : Type} [Inhabited α]

theorem swR_out (d : Array α) (a b n k : Nat) (h1 : k < a ∨ a + n ≤ k) (h2 : k < b ∨ b + n ≤ k) : (swR d a b n)[k]! = d[k]! := by
  induction n with
  | zero => rfl
  | succ n ih => show (swp (swR d a b n) (a + n) (b + n))[k]! = _; rw [swp_other _ _ _ _ (by omega) (by omega)]; exact ih (by omega) (by omega)
theorem swR_left (d : Array α) (a b n k : Nat) (hab : a + n ≤ b) (hb : b + n ≤ d.size) (h1 : a ≤ k) (h2 : k < a + n) : (swR d a b n)[k]! = d[b + (k - a)]! := by
  induction n with
  | zero => omega
  | succ n ih =>
    show (swp (swR d a b n) (a + n) (b + n))[k]! = _
    by_cases e : k = a + n
    · rw [e, swp_left _ _ _ (by rw [size_swR]; omega) (by omega), swR_out _ _ _ _ _ (by omega) (by omega), show a + n - a = n by omega]
    · rw [swp_other _ _ _ _ (by omega) (by omega)]; exact ih (by omega) (by omega) (by omega)
theorem swR_right (d : Array α) (a b n k : Nat) (hab : a + n ≤ b) (hb : b + n ≤ d.size) (h1 : b ≤ k) (h2 : k < b + n) : (swR d a b n)[k]! = d[a + (k - b)]! := by
  induction n with
  | zero => omega
  | succ n ih =>
    show (swp (swR d a b n) (a + n) (b + n))[k]! = _
    by_cases e : k = b + n
    · rw [e, swp_right _ _ _ (by rw [size_swR]; omega), swR_out _ _ _ _ _ (by omega) (by omega), show b + n - b = n by omega]
    · rw [swp_other _ _ _ _ (by omega) (by omega)]; exact ih (by omega) (by omega) (by omega)

def RotP (d d' : Array α) (a m b : Nat) : Prop :=
  d'.size = d.size ∧ (∀ k, k < a ∨ b ≤ k → d'[k]! = d[k]!) ∧ (∀ k, a ≤ k → k + m < a + b → d'[k]! = d[m + (k - a)]!) ∧ (∀ k, a + b ≤ k + m → k < b → d'[k]! = d[k + m - b]!)

def rotL (m : Nat) : Nat → Nat → Nat → Array α → Array α
  | 0, _, _, d => d
  | f + 1, i, j, d => if i = j then swR d (m - i) m i else if j < i then rotL m f (i - j) j (swR d (m - i) m j) else rotL m f i (j - i) (swR d (m - i) (m + j - i) i)

theorem rotL_end (m f i : Nat) (d : Array α) : rotL m (f + 1) i i d = swR d (m - i) m i := by simp [rotL]
theorem rotL_more (m f i j : Nat) (d : Array α) (h : j < i) : rotL m (f + 1) i j d = rotL m f (i - j) j (swR d (m - i) m j) := by simp [rotL, h, Nat.ne_of_gt h]
theorem rotL_less (m f i j : Nat) (d : Array α) (h : i < j) : rotL m (f + 1) i j d = rotL m f i (j - i) (swR d (m - i) (m + j - i) i) := by simp [rotL, Nat.ne_of_lt h, Nat.not_lt.mpr (Nat.le_of_lt h)]

theorem get_eq (d : Array α) {i j : Nat} (h : i = j) : d[i]! = d[j]! := by rw [h]

theorem rotL_rot (m f : Nat) : ∀ (i j : Nat) (d : Array α), i + j ≤ f → 0 < i → 0 < j → i ≤ m → m + j ≤ d.size → RotP d (rotL m f i j d) (m - i) m (m + j) := by
  induction f with
  | zero => intro i j d h; omega
  | succ f ih =>
    intro i j d h hi hj him hjs
    rcases Nat.lt_trichotomy i j with hlt | rfl | hgt
    · rw [rotL_less _ _ _ _ _ hlt]
      obtain ⟨r1, r2, r3, r4⟩ := ih i (j - i) (swR d (m - i) (m + j - i) i) (by omega) hi (by omega) him (by rw [size_swR]; omega)
      refine ⟨by rw [r1, size_swR], fun k hk => ?_, fun k h1 h2 => ?_, fun k h1 h2 => ?_⟩
      · rw [r2 k (by omega), swR_out _ _ _ _ _ (by omega) (by omega)]
      · by_cases hk : k + i < m + (j - i)
        · rw [r3 k h1 (by omega), swR_out _ _ _ _ _ (by omega) (by omega)]
        · rw [r4 k (by omega) (by omega), swR_left _ _ _ _ _ (by omega) (by omega) (by omega) (by omega)]; exact get_eq d (by omega)
      · rw [r2 k (by omega), swR_right _ _ _ _ _ (by omega) (by omega) (by omega) (by omega)]; exact get_eq d (by omega)
    · rw [rotL_end]
      refine ⟨size_swR .., fun k hk => ?_, fun k h1 h2 => ?_, fun k h1 h2 => ?_⟩
      · exact swR_out _ _ _ _ _ (by omega) (by omega)
      · exact swR_left _ _ _ _ _ (by omega) (by omega) (by omega) (by omega)
      · rw [swR_right _ _ _ _ _ (by omega) (by omega) (by omega) (by omega)]; exact get_eq d (by omega)
    · rw [rotL_more _ _ _ _ _ hgt]
      obtain ⟨r1, r2, r3, r4⟩ := ih (i - j) j (swR d (m - i) m j) (by omega) (by omega) hj (by omega) (by rw [size_swR]; omega)
      refine ⟨by rw [r1, size_swR], fun k hk => ?_, fun k h1 h2 => ?_, fun k h1 h2 => ?_⟩
      · rw [r2 k (by omega), swR_out _ _ _ _ _ (by omega) (by omega)]
      · rw [r2 k (by omega), swR_left _ _ _ _ _ (by omega) (by omega) (by omega) (by omega)]
      · by_cases hk : k + i < m + j + j
        · rw [r3 k (by omega) (by omega), swR_right _ _ _ _ _ (by omega) (by omega) (by omega) (by omega)]; exact get_eq d (by omega)
        · rw [r4 k (by omega) h2, swR_out _ _ _ _ _ (by omega) (by omega)]

set_option maxHeartbeats 8000000 in
set_option maxRecDepth 100000 in
theorem rotate_any (enc : α → Value) (blk off cap a m b : Nat) (cv : Value) (d0 d : Array α) (w0 w : World) (R : Row1 enc w0 blk off d0) (hs : d0.size = d.size) (S : SW enc w0 blk off d w) (ham : a < m) (hmb : m < b) (hb : b ≤ d.size) (hsz : d.size ≤ 4096) :
    Calls Try.prog 77 #[.slice (some ⟨blk, off, none⟩) d.size cap, .int .i64 a, .int .i64 m, .int .i64 b, cv] w fun e w' => e = .returned (.tuple #[]) ∧ ∃ d', RotP d d' a m b ∧ SW enc w0 blk off d' w' := by
  have S0 : Aside (SW enc w0 blk off d w) := S
  clear S
  obtain ⟨D, hD⟩ : ∃ D, D = rotL m (b - a) (m - a) (b - m) d := ⟨_, rfl⟩
  have hrot := rotL_rot m (b - a) (m - a) (b - m) d (by omega) (by omega) (by omega) (by omega) (by omega)
  rw [← hD, show m - (m - a) = a by omega, show m + (b - m) = b by omega] at hrot
  have HR : Aside _ := hrot
  clear hrot
  have w1 : IntKind.i64.wrap ((m : Int) - (a : Int)) = ((m - a : Nat) : Int) := by rw [IntKind.wrap_i64]; omega
  have w2 : IntKind.i64.wrap ((b : Int) - (m : Int)) = ((b - m : Nat) : Int) := by rw [IntKind.wrap_i64]; omega
  go_enter Try.func77, Try.ntmps77
  go_wp2
  go_loopg [10, 11] (b - a) (fun g1 vi vj wr => ∃ (i j f : Nat) (dk : Array α), vi = .int .i64 i ∧ vj = .int .i64 j ∧ 0 < i ∧ 0 < j ∧ i ≤ m ∧ m + j ≤ b ∧ i + j ≤ f ∧ f ≤ g1 ∧ dk.size = d.size ∧ Hid (rotL m f i j dk = D) ∧ Aside (SW enc w0 blk off dk wr))
  case atStart => exact ⟨m - a, b - m, b - a, d, by first | rfl | go_num | (congr 1; omega), by first | rfl | go_num | (congr 1; omega), by omega, by omega, by omega, by omega, by omega, by omega, rfl, hD.symm, S0⟩
  case round =>
    clear S0 w1 w2
    obtain ⟨i, j, f, dk, rfl, rfl, hi, hj, him, hjb, hf, hfg, hsk, HI, S1⟩ := hrel
    obtain ⟨f, rfl⟩ : ∃ q, f = q + 1 := ⟨f - 1, by omega⟩
    by_cases hne : i = j
    · subst hne
      have hd : (((i : Int)) == ((i : Int))) = true := by simp
      have wm : IntKind.i64.wrap ((m : Int) - (i : Int)) = (m : Int) - (i : Int) := by rw [IntKind.wrap_i64]; omega
      have hc := swapRange_any enc blk off cap (m - i) m i cv d0 dk w0 wr R (by omega) S1.out (by omega) (by omega) (by omega)
      rw [show ((m - i : Nat) : Int) = (m : Int) - (i : Int) by omega, hsk] at hc
      go_wp2_with (first | (go_at_call 78; refine hc.mono ?_; rintro e w5 ⟨rfl, S5⟩))
      go_end0
      exact ⟨rfl, D, HR.out, by rw [← HI.out, rotL_end]; exact S5⟩
    · have hd : (((i : Int)) == ((j : Int))) = false := by simp; omega
      by_cases hgt : j < i
      · have hgz : (j : Int) < (i : Int) := by omega
        have wm : IntKind.i64.wrap ((m : Int) - (i : Int)) = (m : Int) - (i : Int) := by rw [IntKind.wrap_i64]; omega
        have wi : IntKind.i64.wrap ((i : Int) - (j : Int)) = (i : Int) - (j : Int) := by rw [IntKind.wrap_i64]; omega
        have hc := swapRange_any enc blk off cap (m - i) m j cv d0 dk w0 wr R (by omega) S1.out (by omega) (by omega) (by omega)
        rw [show ((m - i : Nat) : Int) = (m : Int) - (i : Int) by omega, hsk] at hc
        go_wp2_with (first | (go_at_call 78; refine hc.mono ?_; rintro e w5 ⟨rfl, S5⟩))
        go_roundg f
        case measure => omega
        case rel => exact ⟨i - j, j, f, swR dk (m - i) m j, by first | rfl | go_num | (congr 1; omega), rfl, by omega, by omega, by omega, by omega, by omega, by omega, by rw [size_swR]; exact hsk, (show Hid _ from by rw [← HI.out, rotL_more _ _ _ _ _ hgt]; exact rfl), S5⟩
      · have hlt : i < j := by omega
        have hgz : ¬ (j : Int) < (i : Int) := by omega
        have wm : IntKind.i64.wrap ((m : Int) - (i : Int)) = (m : Int) - (i : Int) := by rw [IntKind.wrap_i64]; omega
        have wn : IntKind.i64.wrap ((m : Int) + (j : Int)) = (m : Int) + (j : Int) := by rw [IntKind.wrap_i64]; omega
        have wo : IntKind.i64.wrap ((m : Int) + (j : Int) - (i : Int)) = (m : Int) + (j : Int) - (i : Int) := by rw [IntKind.wrap_i64]; omega
        have wi : IntKind.i64.wrap ((j : Int) - (i : Int)) = (j : Int) - (i : Int) := by rw [IntKind.wrap_i64]; omega
        have hc := swapRange_any enc blk off cap (m - i) (m + j - i) i cv d0 dk w0 wr R (by omega) S1.out (by omega) (by omega) (by omega)
        rw [show ((m - i : Nat) : Int) = (m : Int) - (i : Int) by omega, show ((m + j - i : Nat) : Int) = (m : Int) + (j : Int) - (i : Int) by omega, hsk] at hc
        go_wp2_with (first | (go_at_call 78; refine hc.mono ?_; rintro e w5 ⟨rfl, S5⟩))
        go_roundg f
        case measure => omega
        case rel => exact ⟨i, j - i, f, swR dk (m - i) (m + j - i) i, rfl, by first | rfl | go_num | (congr 1; omega), by omega, by omega, by omega, by omega, by omega, by omega, by rw [size_swR]; exact hsk, (show Hid _ from by rw [← HI.out, rotL_less _ _ _ _ _ hlt]; exact rfl), S5⟩
end Go.Proofs.Ytkoplphcdkmilaa.All
end
section
namespace Go.Proofs.Ytkoplphcdkmilaa.All
open Go.Sort
set_option linter.unusedVariables false

def mlt (cst : Nat → Int) (x y : Nat) : Prop := cst y < cst x ∨ (cst x = cst y ∧ x < y)
theorem mlt_trans {cst : Nat → Int} {x y z : Nat} (h : mlt cst x y) (k : mlt cst y z) : mlt cst x z := by unfold mlt at *; omega
theorem mlt_of_not {cst : Nat → Int} {x y : Nat} (h : ¬ mlt cst x y) (hne : x ≠ y) : mlt cst y x := by unfold mlt at *; omega
theorem mlt_asymm {cst : Nat → Int} {x y : Nat} (h : mlt cst x y) (k : mlt cst y x) : False := by unfold mlt at *; omega

def SortedIn (cst : Nat → Int) (d : Array Nat) (a b : Nat) : Prop := ∀ i j, a ≤ i → i < j → j < b → mlt cst d[i]! d[j]!
def Cross (cst : Nat → Int) (d : Array Nat) (a c b : Nat) : Prop := ∀ i j, a ≤ i → i < c → c ≤ j → j < b → mlt cst d[i]! d[j]!
def Older (d : Array Nat) (a c b : Nat) : Prop := ∀ i j, a ≤ i → i < c → c ≤ j → j < b → d[i]! < d[j]!

theorem sorted_join {cst : Nat → Int} {d : Array Nat} {a c b : Nat} (h1 : SortedIn cst d a c) (h2 : SortedIn cst d c b) (hx : Cross cst d a c b) : SortedIn cst d a b := by
  intro i j ha hij hb
  by_cases hj : j < c
  · exact h1 i j ha hij hj
  · by_cases hi : c ≤ i
    · exact h2 i j hi hij hb
    · exact hx i j ha (by omega) (by omega) hb

theorem permIn_mem {d d' : Array Nat} {a b : Nat} (h : PermIn a b d d') (hb : b ≤ d.size) (k : Nat) (h1 : a ≤ k) (h2 : k < b) : ∃ k', a ≤ k' ∧ k' < b ∧ d'[k]! = d[k']! := by
  have hp := h.2.2
  rw [extract_toList d' a b (by rw [h.1]; exact hb), extract_toList d a b hb] at hp
  have hm : d'[k]! ∈ (List.range' a (b - a)).map (fun k => d'[k]!) := List.mem_map.mpr ⟨k, List.mem_range'_1.mpr ⟨h1, by omega⟩, rfl⟩
  obtain ⟨k', hk', e⟩ := List.mem_map.mp (hp.mem_iff.mp hm)
  have := List.mem_range'_1.mp hk'
  exact ⟨k', this.1, by omega, e.symm⟩

theorem rot_perm {d d' : Array Nat} {a m b : Nat} (h : RotP d d' a m b) (ham : a ≤ m) (hmb : m ≤ b) (hb : b ≤ d.size) : PermIn a b d d' := by
  obtain ⟨r1, r2, r3, r4⟩ := h
  refine ⟨r1, r2, ?_⟩
  rw [extract_toList d' a b (by rw [r1]; exact hb), extract_toList d a b hb]
  have e1 : (List.range' a (b - a)).map (fun k => d'[k]!) = (List.range' m (b - m)).map (fun k => d[k]!) ++ (List.range' a (m - a)).map (fun k => d[k]!) := by
    apply List.ext_getElem
    · simp; omega
    · intro k h1 h2
      have hk : k < b - a := by simpa using h1
      rw [List.getElem_append]
      simp only [List.getElem_map, List.getElem_range', Nat.one_mul, List.length_map, List.length_range']
      by_cases hc : k < b - m
      · rw [dif_pos hc, r3 (a + k) (by omega) (by omega)]; exact get_eq d (by omega)
      · rw [dif_neg hc, r4 (a + k) (by omega) (by omega)]; exact get_eq d (by omega)
  have e2 : (List.range' a (b - a)).map (fun k => d[k]!) = (List.range' a (m - a)).map (fun k => d[k]!) ++ (List.range' m (b - m)).map (fun k => d[k]!) := by
    apply List.ext_getElem
    · simp; omega
    · intro k h1 h2
      have hk : k < b - a := by simpa using h1
      rw [List.getElem_append]
      simp only [List.getElem_map, List.getElem_range', Nat.one_mul, List.length_map, List.length_range']
      by_cases hc : k < m - a
      · rw [dif_pos hc]
      · rw [dif_neg hc]; exact get_eq d (by omega)
  rw [e1, e2]
  exact List.perm_append_comm

theorem rot_self {d : Array Nat} {a m b : Nat} (h : a = m ∨ m = b) : RotP d d a m b :=
  ⟨rfl, fun _ _ => rfl, fun k h1 h2 => get_eq d (by omega), fun k h1 h2 => get_eq d (by omega)⟩

theorem merge_parts {cst : Nat → Int} {d d1 : Array Nat} {a m b st en mid : Nat} (s1 : SortedIn cst d a m) (s2 : SortedIn cst d m b) (ho : Older d a m b)
    (h1 : a ≤ st) (h2 : st ≤ m) (h3 : m ≤ en) (h4 : en ≤ b) (he : st + en = mid + m) (h5 : st ≤ mid) (h6 : mid ≤ en)
    (hA : ∀ i j, a ≤ i → i < st → en ≤ j → j < b → mlt cst d[i]! d[j]!) (hB : ∀ i j, m ≤ i → i < en → st ≤ j → j < m → mlt cst d[i]! d[j]!)
    (hr : RotP d d1 st m en) :
    (SortedIn cst d1 a st ∧ SortedIn cst d1 st mid ∧ Older d1 a st mid) ∧ (SortedIn cst d1 mid en ∧ SortedIn cst d1 en b ∧ Older d1 mid en b) ∧ Cross cst d1 a mid b := by
  obtain ⟨r1, r2, r3, r4⟩ := hr
  have x1 : ∀ k, k < st → d1[k]! = d[k]! := fun k hk => r2 k (.inl hk)
  have x4 : ∀ k, en ≤ k → d1[k]! = d[k]! := fun k hk => r2 k (.inr hk)
  have x2 : ∀ k, st ≤ k → k < mid → d1[k]! = d[m + (k - st)]! := fun k h h' => r3 k h (by omega)
  have x3 : ∀ k, mid ≤ k → k < en → d1[k]! = d[st + (k - mid)]! := fun k h h' => (r4 k (by omega) h').trans (get_eq d (by omega))
  refine ⟨⟨fun i j p q r => ?_, fun i j p q r => ?_, fun i j p q r t => ?_⟩, ⟨fun i j p q r => ?_, fun i j p q r => ?_, fun i j p q r t => ?_⟩, fun i j p q r t => ?_⟩
  · rw [x1 i (by omega), x1 j r]; exact s1 i j p q (by omega)
  · rw [x2 i p (by omega), x2 j (by omega) r]; exact s2 _ _ (by omega) (by omega) (by omega)
  · rw [x1 i q, x2 j r t]; exact ho _ _ p (by omega) (by omega) (by omega)
  · rw [x3 i p (by omega), x3 j (by omega) r]; exact s1 _ _ (by omega) (by omega) (by omega)
  · rw [x4 i p, x4 j (by omega)]; exact s2 _ _ (by omega) q r
  · rw [x3 i p q, x4 j r]; exact ho _ _ (by omega) (by omega) (by omega) t
  · by_cases hi : i < st
    · rw [x1 i hi]
      by_cases hj : j < en
      · rw [x3 j r hj]; exact s1 _ _ p (by omega) (by omega)
      · rw [x4 j (by omega)]; exact hA i j p hi (by omega) t
    · rw [x2 i (by omega) q]
      by_cases hj : j < en
      · rw [x3 j r hj]; exact hB _ _ (by omega) (by omega) (by omega) (by omega)
      · rw [x4 j (by omega)]; exact s2 _ _ (by omega) (by omega) t

theorem permIn_out {d d' : Array Nat} {a b : Nat} (h : PermIn a b d d') (k : Nat) (hk : k < a ∨ b ≤ k) : d'[k]! = d[k]! := h.2.1 k hk

theorem merge_whole {cst : Nat → Int} {d1 d2 d3 : Array Nat} {a b mid : Nat} (ha : a ≤ mid) (hb : mid ≤ b) (hs : b ≤ d1.size) (hx : Cross cst d1 a mid b)
    (p1 : PermIn a mid d1 d2) (s1 : SortedIn cst d2 a mid) (p2 : PermIn mid b d2 d3) (s2 : SortedIn cst d3 mid b) : PermIn a b d1 d3 ∧ SortedIn cst d3 a b := by
  have z2 : d2.size = d1.size := p1.1
  refine ⟨permIn_trans _ _ _ _ _ (permIn_mono _ _ a mid a b (by omega) (by omega) (by omega) p1) (permIn_mono _ _ mid b a b (by omega) (by omega) (by omega) p2), ?_⟩
  refine sorted_join (c := mid) (fun i j p q r => ?_) s2 (fun i j p q r t => ?_)
  · rw [permIn_out p2 i (by omega), permIn_out p2 j (by omega)]; exact s1 i j p q r
  · rw [permIn_out p2 i (by omega)]
    obtain ⟨i', q1, q2, e1⟩ := permIn_mem p1 (by omega) i p q
    obtain ⟨j', q3, q4, e2⟩ := permIn_mem p2 (by omega) j r t
    rw [e1, e2, permIn_out p1 j' (by omega)]
    exact hx i' j' q1 q2 q3 q4

theorem one_right {cst : Nat → Int} {d d' : Array Nat} {a i b : Nat} (hi : a + 1 ≤ i) (hib : i ≤ b) (hb : b ≤ d.size) (s : SortedIn cst d (a + 1) b) (h1 : ∀ k, a + 1 ≤ k → k < i → mlt cst d[k]! d[a]!) (h2 : ∀ k, i ≤ k → k < b → mlt cst d[a]! d[k]!)
    (hr : RotP d d' a (a + 1) i) : PermIn a b d d' ∧ SortedIn cst d' a b := by
  have hp := rot_perm hr (by omega) (by omega) (by omega)
  obtain ⟨r1, r2, r3, r4⟩ := hr
  refine ⟨permIn_mono _ _ a i a b (by omega) (by omega) hb hp, fun p q h3 h4 h5 => ?_⟩
  have e : ∀ k, a ≤ k → k + 1 < i → d'[k]! = d[k + 1]! := fun k h h' => (r3 k h (by omega)).trans (get_eq d (by omega))
  have el : d'[i - 1]! = d[a]! := (r4 (i - 1) (by omega) (by omega)).trans (get_eq d (by omega))
  by_cases hq : q + 1 < i
  · rw [e p h3 (by omega), e q (by omega) hq]; exact s _ _ (by omega) (by omega) (by omega)
  · by_cases hq2 : q + 1 = i
    · rw [e p h3 (by omega), show q = i - 1 by omega, el]; exact h1 _ (by omega) (by omega)
    · rw [r2 q (by omega)]
      by_cases hp1 : p + 1 < i
      · rw [e p h3 hp1]; exact s _ _ (by omega) (by omega) h5
      · by_cases hp2 : p + 1 = i
        · rw [show p = i - 1 by omega, el]; exact h2 q (by omega) h5
        · rw [r2 p (by omega)]; exact s p q (by omega) h4 h5

theorem one_left {cst : Nat → Int} {d d' : Array Nat} {a i m : Nat} (hi : a ≤ i) (him : i ≤ m) (hb : m < d.size) (s : SortedIn cst d a m) (h1 : ∀ k, a ≤ k → k < i → mlt cst d[k]! d[m]!) (h2 : ∀ k, i ≤ k → k < m → mlt cst d[m]! d[k]!)
    (hr : RotP d d' i m (m + 1)) : PermIn a (m + 1) d d' ∧ SortedIn cst d' a (m + 1) := by
  have hp := rot_perm hr (by omega) (by omega) (by omega)
  obtain ⟨r1, r2, r3, r4⟩ := hr
  refine ⟨permIn_mono _ _ i (m + 1) a (m + 1) (by omega) (by omega) (by omega) hp, fun p q h3 h4 h5 => ?_⟩
  have el : d'[i]! = d[m]! := (r3 i (by omega) (by omega)).trans (get_eq d (by omega))
  have e : ∀ k, i < k → k < m + 1 → d'[k]! = d[k - 1]! := fun k h h' => (r4 k (by omega) h').trans (get_eq d (by omega))
  by_cases hp : p < i
  · rw [r2 p (by omega)]
    by_cases hq : q < i
    · rw [r2 q (by omega)]; exact s p q h3 h4 (by omega)
    · by_cases hq2 : q = i
      · rw [hq2, el]; exact h1 p h3 hp
      · rw [e q (by omega) h5]; exact s p (q - 1) h3 (by omega) (by omega)
  · by_cases hp2 : p = i
    · rw [hp2, el, e q (by omega) h5]; exact h2 _ (by omega) (by omega)
    · rw [e p (by omega) (by omega), e q (by omega) h5]; exact s _ _ (by omega) (by omega) (by omega)
end Go.Proofs.Ytkoplphcdkmilaa.All
end
section
namespace Go.Proofs.Ytkoplphcdkmilaa.All
open Go.Shelf Go.Lib Go.Sort Go.RowKit Go.Proofs.YtkoplphcdkmilaaW.PrintWords Go.Proofs.YtkoplphcdkmilaaW.PrintLast Go.Proofs.YtkoplphcdkmilaaW.PrintMore GSteps
set_option linter.unusedVariables false
set_option linter.unusedSimpArgs false

def Merged (cst : Nat → Int) (d d' : Array Nat) (a b : Nat) : Prop := PermIn a b d d' ∧ SortedIn cst d' a b

theorem cmp_lt {cst : Nat → Int} {x y : Nat} (h : y < x) : (cst y - cst x < 0 ↔ mlt cst x y) := by unfold mlt; omega

theorem rot_step_right {d dk : Array Nat} {a k : Nat} (h : RotP d dk a (a + 1) (k + 1)) (hak : a ≤ k) (hk : k + 1 < d.size) : RotP d (swp dk k (k + 1)) a (a + 1) (k + 2) := by
  obtain ⟨r1, r2, r3, r4⟩ := h
  refine ⟨by rw [size_swp, r1], fun q hq => ?_, fun q h1 h2 => ?_, fun q h1 h2 => ?_⟩
  · rw [swp_other _ _ _ _ (by omega) (by omega)]; exact r2 q (by omega)
  · by_cases e : q = k
    · rw [e, swp_left _ _ _ (by omega) (by omega), r2 (k + 1) (by omega)]; exact get_eq d (by omega)
    · rw [swp_other _ _ _ _ e (by omega)]; exact r3 q h1 (by omega)
  · rw [show q = k + 1 by omega, swp_right _ _ _ (by omega), r4 k (by omega) (by omega)]; exact get_eq d (by omega)
theorem rot_step_left {d dk : Array Nat} {m k : Nat} (h : RotP d dk (k + 1) m (m + 1)) (hk : k + 1 ≤ m) (hm : m < d.size) : RotP d (swp dk (k + 1) k) k m (m + 1) := by
  obtain ⟨r1, r2, r3, r4⟩ := h
  refine ⟨by rw [size_swp, r1], fun q hq => ?_, fun q h1 h2 => ?_, fun q h1 h2 => ?_⟩
  · rw [swp_other _ _ _ _ (by omega) (by omega)]; exact r2 q (by omega)
  · rw [show q = k by omega, swp_right _ _ _ (by omega), r3 (k + 1) (by omega) (by omega)]; exact get_eq d (by omega)
  · by_cases e : q = k + 1
    · rw [e, swp_left _ _ _ (by omega) (by omega), r2 k (by omega)]; exact get_eq d (by omega)
    · rw [swp_other _ _ _ _ e (by omega)]; exact r4 q (by omega) h2

set_option maxHeartbeats 16000000 in
set_option maxRecDepth 100000 in
theorem merge_one_right (enc : Nat → Value) (cst : Nat → Int) (g : Nat) (cb : Array Value) (blk off cap a b : Nat) (d0 d : Array Nat) (w0 w : World)
    (eg : ∀ args w, (callFunc g args).run Try.prog w = .ok (.enter g args) w) (hcmp : CmpLays1 Try.prog g cb enc (fun x y => cst y - cst x) blk off d0.size w0) (R : Row1 enc w0 blk off d0) (hs : d0.size = d.size) (S : SW enc w0 blk off d w)
    (hab : a + 1 < b) (hb : b ≤ d.size) (hsz : d.size ≤ 4096) (s2 : SortedIn cst d (a + 1) b) (ho : Older d a (a + 1) b) :
    Calls Try.prog 75 #[.slice (some ⟨blk, off, none⟩) d.size cap, .int .i64 a, .int .i64 ((a : Int) + 1), .int .i64 b, .func (.func g) #[] cb] w fun e w' => e = .returned (.tuple #[]) ∧ ∃ d', Merged cst d d' a b ∧ SW enc w0 blk off d' w' := by
  have mixed : Try.prog.follows .mixedOrders = true := by kernel_rfl
  have hcl0 := R.hO.cells
  simp only [Value.cells] at hcl0
  have hst := R.hO.store Try.prog
  have HC : Aside _ := hcmp
  have S0 : Aside (SW enc w0 blk off d w) := S
  clear S hcmp
  have hd1 : ((IntKind.i64.wrap ((a : Int) + 1 - (a : Int))) == (1 : Int)) = true := by rw [IntKind.wrap_i64]; simp; omega
  go_enter Try.func75, Try.ntmps75
  go_wp2
  go_loopg [10, 11] (b - a) (fun g1 vi vj wr => ∃ i j : Nat, vi = .int .i64 i ∧ vj = .int .i64 j ∧ a + 1 ≤ i ∧ i ≤ j ∧ j ≤ b ∧ j - i ≤ g1 ∧ Aside (∀ k, a + 1 ≤ k → k < i → mlt cst d[k]! d[a]!) ∧ Aside (∀ k, j ≤ k → k < b → mlt cst d[a]! d[k]!) ∧ Aside (SW enc w0 blk off d wr))
  case atStart => exact ⟨a + 1, b, by first | rfl | go_num, rfl, by omega, by omega, by omega, by omega, fun k h1 h2 => by omega, fun k h1 h2 => by omega, S0⟩
  case round =>
    clear S0
    obtain ⟨i, j, rfl, rfl, hai, hij, hjb, hg1, L1, L2, S1⟩ := hrel
    by_cases hlt : i < j
    · have hltz : (i : Int) < (j : Int) := by omega
      obtain ⟨h, hh1, hh2, hz⟩ : ∃ h : Nat, i ≤ h ∧ h < j ∧ ((i : Int) + (j : Int)) / 2 = (h : Int) := ⟨(i + j) / 2, by omega, by omega, by omega⟩
      have wu : IntKind.u64.wrap ((i : Int) + (j : Int)) = (i : Int) + (j : Int) := by rw [IntKind.wrap_u64]; omega
      have ba : (a : Int) < (d.size : Int) := by omega
      have bh : (h : Int) < (d.size : Int) := by omega
      have ph : (0 : Int) ≤ (h : Int) := by omega
      have pa : (0 : Int) ≤ (a : Int) := by omega
      have th : ((h : Int)).toNat = h := by omega
      have ta : ((a : Int)).toNat = a := by omega
      obtain ⟨x, hx⟩ : ∃ x, x = d[h]! := ⟨_, rfl⟩
      obtain ⟨y, hy⟩ : ∃ x, x = d[a]! := ⟨_, rfl⟩
      have l1 := S1.out.cl R (by omega) h (by omega)
      have l2 := S1.out.cl R (by omega) a (by omega)
      rw [← hx] at l1
      rw [← hy] at l2
      have hc := S1.out.cmp HC.out (by omega) x y
      have hyx : y < x := by rw [hx, hy]; exact ho a h (by omega) (by omega) (by omega) (by omega)
      have hv := cmp_lt (cst := cst) hyx
      cases hd : decide (cst y - cst x < 0) with
      | true =>
        have hm : mlt cst d[h]! d[a]! := by rw [← hx, ← hy]; exact hv.mp (of_decide_eq_true hd)
        have N1 : Aside (∀ k, a + 1 ≤ k → k < h + 1 → mlt cst d[k]! d[a]!) := fun k p q => by
          by_cases e : k = h
          · rw [e]; exact hm
          · exact mlt_trans (s2 k h p (by omega) (by omega)) hm
        have hv1 : cst y - cst x < 0 := of_decide_eq_true hd
        clear hv hm hx hy hyx
        go_wp2_with fail
        go_quiet_grown (first | (go_at_fn g; refine Calls.grown_of (hc _ _)))
        have S2 : Aside (SW enc w0 blk off d (grow (wr.drewN nq) osq)) := S1.out.grown nq osq
        clear l1 l2 hc S1
        generalize grow (wr.drewN nq) osq = w2 at S2 ⊢
        clear nq osq
        go_wp2
        go_roundg (j - (h + 1))
        case measure => omega
        case rel => exact ⟨h + 1, j, by first | rfl | go_num, rfl, by omega, by omega, hjb, Nat.le_refl _, N1, L2, S2⟩
      | false =>
        have hm : mlt cst d[a]! d[h]! := by rw [← hx, ← hy]; exact mlt_of_not (fun e => (of_decide_eq_false hd) (hv.mpr e)) (by omega)
        have N2 : Aside (∀ k, h ≤ k → k < b → mlt cst d[a]! d[k]!) := fun k p q => by
          by_cases e : k = h
          · rw [e]; exact hm
          · exact mlt_trans hm (s2 h k (by omega) (by omega) q)
        have hv1 : ¬ cst y - cst x < 0 := of_decide_eq_false hd
        clear hv hm hx hy hyx
        go_wp2_with fail
        go_quiet_grown (first | (go_at_fn g; refine Calls.grown_of (hc _ _)))
        have S2 : Aside (SW enc w0 blk off d (grow (wr.drewN nq) osq)) := S1.out.grown nq osq
        clear l1 l2 hc S1
        generalize grow (wr.drewN nq) osq = w2 at S2 ⊢
        clear nq osq
        go_wp2
        go_roundg (h - i)
        case measure => omega
        case rel => exact ⟨i, h, rfl, rfl, hai, hh1, by omega, Nat.le_refl _, L1, N2, S2⟩
    · have hltz : ¬ (i : Int) < (j : Int) := by omega
      obtain rfl : i = j := by omega
      go_wp2
      go_loopg [13] (i - a) (fun g1 vk wr => ∃ (k : Nat) (dk : Array Nat), vk = .int .i64 k ∧ a ≤ k ∧ k + 1 ≤ i ∧ i - 1 - k ≤ g1 ∧ Aside (RotP d dk a (a + 1) (k + 1)) ∧ Aside (SW enc w0 blk off dk wr))
      case atStart => exact ⟨a, d, rfl, by omega, by omega, by omega, rot_self (.inr rfl), S1⟩
      case round =>
        clear S1
        obtain ⟨k, dk, rfl, hak, hki, hg1, RP, S1⟩ := hrel
        have hsk : dk.size = d.size := RP.out.1
        have wi : IntKind.i64.wrap ((i : Int) - 1) = (i : Int) - 1 := by rw [IntKind.wrap_i64]; omega
        by_cases hlt : k + 1 < i
        · have hltz : (k : Int) < (i : Int) - 1 := by omega
          have pi0 : (0 : Int) ≤ (k : Int) := by omega
          have pj0 : (0 : Int) ≤ (k : Int) + 1 := by omega
          have pi1 : (k : Int) < (d.size : Int) := by omega
          have pj1 : (k : Int) + 1 < (d.size : Int) := by omega
          have rj : IntKind.i64.wrap ((k : Int) + 1) = (k : Int) + 1 := by rw [IntKind.wrap_i64]; omega
          have ti : ((k : Int)).toNat = k := by omega
          have tj : ((k : Int) + 1).toNat = k + 1 := by omega
          obtain ⟨x, hx⟩ : ∃ x, x = dk[k]! := ⟨_, rfl⟩
          obtain ⟨y, hy⟩ : ∃ x, x = dk[k + 1]! := ⟨_, rfl⟩
          have S3 : Aside (SW enc w0 blk off (swp dk k (k + 1)) ((wr.setCell ⟨blk, off + k, none⟩ (enc y)).setCell ⟨blk, off + (k + 1), none⟩ (enc x)).drew) := by rw [hx, hy]; exact S1.out.swapped R k (k + 1) (by omega) (by omega)
          have c1a := S1.out.c1 R (by omega) k (by omega)
          have c1b := S1.out.c1 R (by omega) (k + 1) (by omega)
          have f1a := S1.out.f1 R (by omega) k (by omega)
          have f1b := S1.out.f1 R (by omega) (k + 1) (by omega)
          obtain ⟨u, c1c⟩ := S1.out.c2 R (by omega) k (k + 1) (by omega) (by omega) (enc y)
          rw [← hx] at c1a
          rw [← hy] at c1b
          clear S1 hx hy
          go_wp2
          go_region
          clear c1a c1b c1c f1a f1b
          generalize ((wr.setCell ⟨blk, off + k, none⟩ (enc y)).setCell ⟨blk, off + (k + 1), none⟩ (enc x)).drew = w3 at S3 ⊢
          go_wp2
          go_roundg (i - 1 - (k + 1))
          case measure => omega
          case rel => exact ⟨k + 1, swp dk k (k + 1), by first | rfl | go_num, by omega, by omega, by omega, rot_step_right RP.out hak (by omega), S3⟩
        · have hltz : ¬ (k : Int) < (i : Int) - 1 := by omega
          obtain rfl : i = k + 1 := by omega
          go_wp2
          refine bodyPost_ret (results_none rfl _ _ _) rfl ?_
          exact ⟨rfl, dk, one_right (by omega) hjb hb s2 L1.out L2.out RP.out, S1.out⟩
end Go.Proofs.Ytkoplphcdkmilaa.All
end
