/- Texts of this claim joined, in the order in which they build: GSort, GSort0. -/
import Derived.Test.YtkoplphcdkmilaaK22
section
namespace Go.Proofs.Ytkoplphcdkmilaa.All
open Go.Shelf Go.Lib Go.Sort Go.RowKit Go.Proofs.YtkoplphcdkmilaaW.PrintWords Go.Proofs.YtkoplphcdkmilaaW.PrintLast Go.Proofs.YtkoplphcdkmilaaW.PrintMore GSteps
set_option linter.unusedVariables false
set_option linter.unusedSimpArgs false

set_option maxHeartbeats 16000000 in
set_option maxRecDepth 100000 in
theorem sort_any (enc : Nat → Value) (cst : Nat → Int) (g : Nat) (cb : Array Value) (blk off cap n : Nat) (d : Array Nat) (w : World)
    (eg : ∀ args w, (callFunc g args).run Try.prog w = .ok (.enter g args) w) (hcmp : CmpLays1 Try.prog g cb enc (fun x y => cst y - cst x) blk off d.size w) (R : Row1 enc w blk off d)
    (hn : d.size = n) (h22 : n ≤ 22) (hinc : Inc d 0 n) :
    Calls Try.prog 49 #[.slice (some ⟨blk, off, none⟩) n cap, .func (.func g) #[] cb] w fun e w' => e = .returned (.tuple #[]) ∧ ∃ d', Merged cst d d' 0 n ∧ SW enc w blk off d' w' := by
  have hc := stable_any enc cst g cb blk off cap n d d w w eg hcmp R rfl (SW.start R.hH) hn h22 hinc
  clear hcmp hinc
  go_enter Try.func49, Try.ntmps49
  go_wp2_with (first | (go_at_call 64; refine hc.mono ?_; rintro e w5 ⟨rfl, d1, M, S5⟩))
  go_end0
  exact ⟨rfl, d1, M, S5⟩
end Go.Proofs.Ytkoplphcdkmilaa.All
end
section
namespace Go.Proofs.Ytkoplphcdkmilaa.All
open Go.Shelf Go.Lib Go.Sort Go.RowKit Go.Proofs.YtkoplphcdkmilaaW.PrintWords Go.Proofs.YtkoplphcdkmilaaW.PrintLast Go.Proofs.YtkoplphcdkmilaaW.PrintMore GSteps
set_option linter.unusedVariables false
set_option linter.unusedSimpArgs false

set_option maxHeartbeats 16000000 in
set_option maxRecDepth 100000 in
theorem insertion_empty (A : Option Addr) (c : Nat) (fv : Value) (w : World) :
    Calls Try.prog 74 #[.slice A 0 c, .int .i64 0, .int .i64 0, fv] w fun e w' => e = .returned (.tuple #[]) ∧ w' = w := by
  go_enter Try.func74, Try.ntmps74
  go_wp2
  go_loopg [8] 1 (fun g1 vi wr => vi = .int .i64 1 ∧ wr = w)
  case atStart => exact ⟨rfl, rfl⟩
  case round =>
    obtain ⟨rfl, rfl⟩ := hrel
    go_wp2
    go_end0
    exact ⟨rfl, rfl⟩

set_option maxHeartbeats 16000000 in
set_option maxRecDepth 100000 in
theorem stable_empty (A : Option Addr) (c : Nat) (fv : Value) (w : World) :
    Calls Try.prog 64 #[.slice A 0 c, .int .i64 0, fv] w fun e w' => e = .returned (.tuple #[]) ∧ w' = w := by
  go_enter Try.func64, Try.ntmps64
  go_wp2
  go_loopg [7, 8] 1 (fun g1 va vb wr => va = .int .i64 0 ∧ vb = .int .i64 20 ∧ wr = w)
  case atStart => exact ⟨rfl, rfl, rfl⟩
  case round =>
    obtain ⟨rfl, rfl, rfl⟩ := hrel
    go_wp2_with (first | (go_at_call 74; refine (insertion_empty A c fv _).mono ?_; rintro e w5 ⟨rfl, rfl⟩))
    rename_i wr
    go_loopg [6] 1 (fun g1 v6 wq => v6 = .int .i64 20 ∧ wq = w5)
    case atStart => exact ⟨rfl, rfl⟩
    case round =>
      obtain ⟨rfl, rfl⟩ := hrel
      go_wp2
      go_end0
      exact ⟨rfl, rfl⟩

set_option maxHeartbeats 16000000 in
set_option maxRecDepth 100000 in
theorem sort_empty (A : Option Addr) (c : Nat) (fv : Value) (w : World) :
    Calls Try.prog 49 #[.slice A 0 c, fv] w fun e w' => e = .returned (.tuple #[]) ∧ w' = w := by
  go_enter Try.func49, Try.ntmps49
  go_wp2_with (first | (go_at_call 64; refine (stable_empty A c fv _).mono ?_; rintro e w5 ⟨rfl, rfl⟩))
  go_end0
  exact ⟨rfl, rfl⟩
end Go.Proofs.Ytkoplphcdkmilaa.All
end
