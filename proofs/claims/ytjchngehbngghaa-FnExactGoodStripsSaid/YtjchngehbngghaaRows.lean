/-
  No cell of these rows narrows 'for every input' (looked for: loops, veiled, ifaces, maps, wideKeys, modest, calm, conditions, laid).
  DERIVED. THE GIVEN ROWS OF THIS SEAT. 8 by the template 'for every input the law returns true; each argument reads behind the call as it read before'; 0 by the template 'total and deterministic' (their statements: YtjchngehbngghaaTotals.lean).
  GIVEN WITH THE SEED: the statements are not yours to turn. If you find one false, say at which input.
  Laid BY PROGRAM, IN A SANDBOX (cutbox-rows.mjs): the forced cells as the released guide's own fill.sh prints them over the translation 4c62eca4c46a7481… (all of the seat's roots in one cut). By AI agents, Wed Nov 11 2026. No macro, syntax, notation, axiom, sorry.
-/
import Derived.Test.YtjchngehbngghaaChecked
import GoSem.Claim
import GoSem.ClaimJoined
import GoSem.ClaimMapViews
import Derived.JoinedTies
import Derived.KernelRfl
namespace Go.Proofs.Ytjchngehbngghaa
/- THE CELL 'sum', in the pinned program and in every row, IS THE sha256 OF THE DUMP (.gsa) THAT YtjchngehbngghaaProg.lean LOADS. Nothing in Lean hashes anything: it is a label: what it is worth is what the hold of that sum in a sandbox is worth. -/
noncomputable def Try.pinned : Pinned := { name := "ytjchngehbngghaa", sum := "4c62eca4c46a74812b2ff25f9514f1e5b8e95a8b2dbd4f2e4638e9afe43e4dbc", checked := Try.checked }
namespace Rows
def none {H : Type} : Left H := { results := [], args := [] }

/-- 'laws.FnExactLongestStripPlay': WHATEVER THE INPUT: true; the input reads as it did. -/
def fnExactLongestStripPlaySpec : ChangeSpec := { name := "fnExactLongestStripPlay", fn := fun _ => fun
  | [d1, d2, d3] => { results := [.lit (.bool true)], args := [d1, d2, d3] }
  | _ => none }
def fnExactLongestStripPlayRow : OpenClaim := { program := "ytjchngehbngghaa", sum := "4c62eca4c46a74812b2ff25f9514f1e5b8e95a8b2dbd4f2e4638e9afe43e4dbc", func := "loop.example/g01377/laws.FnExactLongestStripPlay", spec := "fnExactLongestStripPlay", unfollowed := true, recurses := true, apart := false }
def FnExactLongestStripPlaySaid : Prop := fnExactLongestStripPlayRow.holds Try.pinned (OpenSpec.ofChange fnExactLongestStripPlaySpec)

/-- ITS FALSE NEIGHBOUR: 'it returns false'. Refute it at one input. -/
def fnExactLongestStripPlayWrong : ChangeSpec := { name := "fnExactLongestStripPlay", fn := fun _ => fun
  | [d1, d2, d3] => { results := [.lit (.bool false)], args := [d1, d2, d3] }
  | _ => none }
def FnExactLongestStripPlayWrongFalsely : Prop := fnExactLongestStripPlayRow.holds Try.pinned (OpenSpec.ofChange fnExactLongestStripPlayWrong)

/-- 'laws.FnExactShortestStripPlay': WHATEVER THE INPUT: true; the input reads as it did. -/
def fnExactShortestStripPlaySpec : ChangeSpec := { name := "fnExactShortestStripPlay", fn := fun _ => fun
  | [d1, d2, d3] => { results := [.lit (.bool true)], args := [d1, d2, d3] }
  | _ => none }
def fnExactShortestStripPlayRow : OpenClaim := { program := "ytjchngehbngghaa", sum := "4c62eca4c46a74812b2ff25f9514f1e5b8e95a8b2dbd4f2e4638e9afe43e4dbc", func := "loop.example/g01377/laws.FnExactShortestStripPlay", spec := "fnExactShortestStripPlay", unfollowed := true, recurses := true, apart := false }
def FnExactShortestStripPlaySaid : Prop := fnExactShortestStripPlayRow.holds Try.pinned (OpenSpec.ofChange fnExactShortestStripPlaySpec)

/-- ITS FALSE NEIGHBOUR: 'it returns false'. Refute it at one input. -/
def fnExactShortestStripPlayWrong : ChangeSpec := { name := "fnExactShortestStripPlay", fn := fun _ => fun
  | [d1, d2, d3] => { results := [.lit (.bool false)], args := [d1, d2, d3] }
  | _ => none }
def FnExactShortestStripPlayWrongFalsely : Prop := fnExactShortestStripPlayRow.holds Try.pinned (OpenSpec.ofChange fnExactShortestStripPlayWrong)

/-- 'laws.FnExactStripMoves': WHATEVER THE INPUT: true; the input reads as it did. -/
def fnExactStripMovesSpec : ChangeSpec := { name := "fnExactStripMoves", fn := fun _ => fun
  | [d1, d2, d3] => { results := [.lit (.bool true)], args := [d1, d2, d3] }
  | _ => none }
def fnExactStripMovesRow : OpenClaim := { program := "ytjchngehbngghaa", sum := "4c62eca4c46a74812b2ff25f9514f1e5b8e95a8b2dbd4f2e4638e9afe43e4dbc", func := "loop.example/g01377/laws.FnExactStripMoves", spec := "fnExactStripMoves", apart := false }
def FnExactStripMovesSaid : Prop := fnExactStripMovesRow.holds Try.pinned (OpenSpec.ofChange fnExactStripMovesSpec)

/-- ITS FALSE NEIGHBOUR: 'it returns false'. Refute it at one input. -/
def fnExactStripMovesWrong : ChangeSpec := { name := "fnExactStripMoves", fn := fun _ => fun
  | [d1, d2, d3] => { results := [.lit (.bool false)], args := [d1, d2, d3] }
  | _ => none }
def FnExactStripMovesWrongFalsely : Prop := fnExactStripMovesRow.holds Try.pinned (OpenSpec.ofChange fnExactStripMovesWrong)

/-- 'laws.FnExactStripValue': WHATEVER THE INPUT: true; the input reads as it did. -/
def fnExactStripValueSpec : ChangeSpec := { name := "fnExactStripValue", fn := fun _ => fun
  | [d1, d2, d3] => { results := [.lit (.bool true)], args := [d1, d2, d3] }
  | _ => none }
def fnExactStripValueRow : OpenClaim := { program := "ytjchngehbngghaa", sum := "4c62eca4c46a74812b2ff25f9514f1e5b8e95a8b2dbd4f2e4638e9afe43e4dbc", func := "loop.example/g01377/laws.FnExactStripValue", spec := "fnExactStripValue", apart := false }
def FnExactStripValueSaid : Prop := fnExactStripValueRow.holds Try.pinned (OpenSpec.ofChange fnExactStripValueSpec)

/-- ITS FALSE NEIGHBOUR: 'it returns false'. Refute it at one input. -/
def fnExactStripValueWrong : ChangeSpec := { name := "fnExactStripValue", fn := fun _ => fun
  | [d1, d2, d3] => { results := [.lit (.bool false)], args := [d1, d2, d3] }
  | _ => none }
def FnExactStripValueWrongFalsely : Prop := fnExactStripValueRow.holds Try.pinned (OpenSpec.ofChange fnExactStripValueWrong)

/-- 'laws.FnExactBreakStrip': WHATEVER THE INPUT: true; the input reads as it did. -/
def fnExactBreakStripSpec : ChangeSpec := { name := "fnExactBreakStrip", fn := fun _ => fun
  | [d1, d2, d3, d4, d5] => { results := [.lit (.bool true)], args := [d1, d2, d3, d4, d5] }
  | _ => none }
def fnExactBreakStripRow : OpenClaim := { program := "ytjchngehbngghaa", sum := "4c62eca4c46a74812b2ff25f9514f1e5b8e95a8b2dbd4f2e4638e9afe43e4dbc", func := "loop.example/g01377/laws.FnExactBreakStrip", spec := "fnExactBreakStrip", unfollowed := true, recurses := true, apart := false }
def FnExactBreakStripSaid : Prop := fnExactBreakStripRow.holds Try.pinned (OpenSpec.ofChange fnExactBreakStripSpec)

/-- ITS FALSE NEIGHBOUR: 'it returns false'. Refute it at one input. -/
def fnExactBreakStripWrong : ChangeSpec := { name := "fnExactBreakStrip", fn := fun _ => fun
  | [d1, d2, d3, d4, d5] => { results := [.lit (.bool false)], args := [d1, d2, d3, d4, d5] }
  | _ => none }
def FnExactBreakStripWrongFalsely : Prop := fnExactBreakStripRow.holds Try.pinned (OpenSpec.ofChange fnExactBreakStripWrong)

/-- 'laws.FnExactLostStrips': WHATEVER THE INPUT: true; the input reads as it did. -/
def fnExactLostStripsSpec : ChangeSpec := { name := "fnExactLostStrips", fn := fun _ => fun
  | [d1, d2, d3] => { results := [.lit (.bool true)], args := [d1, d2, d3] }
  | _ => none }
def fnExactLostStripsRow : OpenClaim := { program := "ytjchngehbngghaa", sum := "4c62eca4c46a74812b2ff25f9514f1e5b8e95a8b2dbd4f2e4638e9afe43e4dbc", func := "loop.example/g01377/laws.FnExactLostStrips", spec := "fnExactLostStrips", apart := false }
def FnExactLostStripsSaid : Prop := fnExactLostStripsRow.holds Try.pinned (OpenSpec.ofChange fnExactLostStripsSpec)

/-- ITS FALSE NEIGHBOUR: 'it returns false'. Refute it at one input. -/
def fnExactLostStripsWrong : ChangeSpec := { name := "fnExactLostStrips", fn := fun _ => fun
  | [d1, d2, d3] => { results := [.lit (.bool false)], args := [d1, d2, d3] }
  | _ => none }
def FnExactLostStripsWrongFalsely : Prop := fnExactLostStripsRow.holds Try.pinned (OpenSpec.ofChange fnExactLostStripsWrong)

/-- 'laws.FnExactWinsStrips': WHATEVER THE INPUT: true; the input reads as it did. -/
def fnExactWinsStripsSpec : ChangeSpec := { name := "fnExactWinsStrips", fn := fun _ => fun
  | [d1, d2, d3] => { results := [.lit (.bool true)], args := [d1, d2, d3] }
  | _ => none }
def fnExactWinsStripsRow : OpenClaim := { program := "ytjchngehbngghaa", sum := "4c62eca4c46a74812b2ff25f9514f1e5b8e95a8b2dbd4f2e4638e9afe43e4dbc", func := "loop.example/g01377/laws.FnExactWinsStrips", spec := "fnExactWinsStrips", unfollowed := true, recurses := true, apart := false }
def FnExactWinsStripsSaid : Prop := fnExactWinsStripsRow.holds Try.pinned (OpenSpec.ofChange fnExactWinsStripsSpec)

/-- ITS FALSE NEIGHBOUR: 'it returns false'. Refute it at one input. -/
def fnExactWinsStripsWrong : ChangeSpec := { name := "fnExactWinsStrips", fn := fun _ => fun
  | [d1, d2, d3] => { results := [.lit (.bool false)], args := [d1, d2, d3] }
  | _ => none }
def FnExactWinsStripsWrongFalsely : Prop := fnExactWinsStripsRow.holds Try.pinned (OpenSpec.ofChange fnExactWinsStripsWrong)

/-- 'laws.FnExactGoodStrips': WHATEVER THE INPUT: true; the input reads as it did. -/
def fnExactGoodStripsSpec : ChangeSpec := { name := "fnExactGoodStrips", fn := fun _ => fun
  | [d1, d2, d3] => { results := [.lit (.bool true)], args := [d1, d2, d3] }
  | _ => none }
def fnExactGoodStripsRow : OpenClaim := { program := "ytjchngehbngghaa", sum := "4c62eca4c46a74812b2ff25f9514f1e5b8e95a8b2dbd4f2e4638e9afe43e4dbc", func := "loop.example/g01377/laws.FnExactGoodStrips", spec := "fnExactGoodStrips", unfollowed := true, recurses := true, apart := false }
def FnExactGoodStripsSaid : Prop := fnExactGoodStripsRow.holds Try.pinned (OpenSpec.ofChange fnExactGoodStripsSpec)

/-- ITS FALSE NEIGHBOUR: 'it returns false'. Refute it at one input. -/
def fnExactGoodStripsWrong : ChangeSpec := { name := "fnExactGoodStrips", fn := fun _ => fun
  | [d1, d2, d3] => { results := [.lit (.bool false)], args := [d1, d2, d3] }
  | _ => none }
def FnExactGoodStripsWrongFalsely : Prop := fnExactGoodStripsRow.holds Try.pinned (OpenSpec.ofChange fnExactGoodStripsWrong)

/- THE SECOND FORM. 'bulk': how many values and letters a reading holds, each counted each time it is reached (what is shared counts as often as it is met; a slice's spare places count too). A statement '..UptoSaid' is the law's where the arguments, and the package variables that the reading takes, are together of bulk at most 1048576: NARROWER than '..Said'. Prove '..Said' where nothing that the law and all that it calls make is longer than what came in: it says more and counts as full. Else prove '..UptoSaid'. A law counts once. -/
mutual
def uptoBulk {H : Type} : DataW H → Nat
  | .lit (.string bytes) => bytes.length + 1
  | .lit _ => 1
  | .nil => 1
  | .ptr d => uptoBulk d + 1
  | .slice elems spare => uptoBulkAll elems + uptoBulkAll spare + 1
  | .agg parts => uptoBulkAll parts + 1
  | .iface _ d => uptoBulk d + 1
  | .map entries => uptoBulkEntries entries + 1
  | .held _ => 1
def uptoBulkAll {H : Type} : List (DataW H) → Nat
  | [] => 0
  | d :: r => uptoBulk d + uptoBulkAll r
def uptoBulkEntries {H : Type} : List (Lit × DataW H) → Nat
  | [] => 0
  | x :: r => uptoBulkEntry x + uptoBulkEntries r
def uptoBulkEntry {H : Type} : Lit × DataW H → Nat
  | (.string bytes, d) => bytes.length + uptoBulk d + 1
  | (_, d) => uptoBulk d + 1
 end
def uptoSmall : (H : Type) → List (DataW H) → Bool := fun _ ds => decide (uptoBulkAll ds ≤ 1048576)
def OpenSpec.upto (s : _root_.Go.ChangeSpec) : _root_.Go.OpenSpec := { _root_.Go.OpenSpec.ofChange s with cond := some uptoSmall }

/-- 'laws.FnExactLongestStripPlay', WHERE WHAT IT READS IS OF BULK AT MOST 1048576: true; the input reads as it did. -/
def fnExactLongestStripPlayUptoRow : OpenClaim := { program := "ytjchngehbngghaa", sum := "4c62eca4c46a74812b2ff25f9514f1e5b8e95a8b2dbd4f2e4638e9afe43e4dbc", func := "loop.example/g01377/laws.FnExactLongestStripPlay", spec := "fnExactLongestStripPlay", unfollowed := true, recurses := true, apart := false, narrowed := true }
def FnExactLongestStripPlayUptoSaid : Prop := fnExactLongestStripPlayUptoRow.holds Try.pinned (OpenSpec.upto fnExactLongestStripPlaySpec)

/-- 'laws.FnExactShortestStripPlay', WHERE WHAT IT READS IS OF BULK AT MOST 1048576: true; the input reads as it did. -/
def fnExactShortestStripPlayUptoRow : OpenClaim := { program := "ytjchngehbngghaa", sum := "4c62eca4c46a74812b2ff25f9514f1e5b8e95a8b2dbd4f2e4638e9afe43e4dbc", func := "loop.example/g01377/laws.FnExactShortestStripPlay", spec := "fnExactShortestStripPlay", unfollowed := true, recurses := true, apart := false, narrowed := true }
def FnExactShortestStripPlayUptoSaid : Prop := fnExactShortestStripPlayUptoRow.holds Try.pinned (OpenSpec.upto fnExactShortestStripPlaySpec)

/-- 'laws.FnExactStripMoves', WHERE WHAT IT READS IS OF BULK AT MOST 1048576: true; the input reads as it did. -/
def fnExactStripMovesUptoRow : OpenClaim := { program := "ytjchngehbngghaa", sum := "4c62eca4c46a74812b2ff25f9514f1e5b8e95a8b2dbd4f2e4638e9afe43e4dbc", func := "loop.example/g01377/laws.FnExactStripMoves", spec := "fnExactStripMoves", apart := false, narrowed := true }
def FnExactStripMovesUptoSaid : Prop := fnExactStripMovesUptoRow.holds Try.pinned (OpenSpec.upto fnExactStripMovesSpec)

/-- 'laws.FnExactStripValue', WHERE WHAT IT READS IS OF BULK AT MOST 1048576: true; the input reads as it did. -/
def fnExactStripValueUptoRow : OpenClaim := { program := "ytjchngehbngghaa", sum := "4c62eca4c46a74812b2ff25f9514f1e5b8e95a8b2dbd4f2e4638e9afe43e4dbc", func := "loop.example/g01377/laws.FnExactStripValue", spec := "fnExactStripValue", apart := false, narrowed := true }
def FnExactStripValueUptoSaid : Prop := fnExactStripValueUptoRow.holds Try.pinned (OpenSpec.upto fnExactStripValueSpec)

/-- 'laws.FnExactBreakStrip', WHERE WHAT IT READS IS OF BULK AT MOST 1048576: true; the input reads as it did. -/
def fnExactBreakStripUptoRow : OpenClaim := { program := "ytjchngehbngghaa", sum := "4c62eca4c46a74812b2ff25f9514f1e5b8e95a8b2dbd4f2e4638e9afe43e4dbc", func := "loop.example/g01377/laws.FnExactBreakStrip", spec := "fnExactBreakStrip", unfollowed := true, recurses := true, apart := false, narrowed := true }
def FnExactBreakStripUptoSaid : Prop := fnExactBreakStripUptoRow.holds Try.pinned (OpenSpec.upto fnExactBreakStripSpec)

/-- 'laws.FnExactLostStrips', WHERE WHAT IT READS IS OF BULK AT MOST 1048576: true; the input reads as it did. -/
def fnExactLostStripsUptoRow : OpenClaim := { program := "ytjchngehbngghaa", sum := "4c62eca4c46a74812b2ff25f9514f1e5b8e95a8b2dbd4f2e4638e9afe43e4dbc", func := "loop.example/g01377/laws.FnExactLostStrips", spec := "fnExactLostStrips", apart := false, narrowed := true }
def FnExactLostStripsUptoSaid : Prop := fnExactLostStripsUptoRow.holds Try.pinned (OpenSpec.upto fnExactLostStripsSpec)

/-- 'laws.FnExactWinsStrips', WHERE WHAT IT READS IS OF BULK AT MOST 1048576: true; the input reads as it did. -/
def fnExactWinsStripsUptoRow : OpenClaim := { program := "ytjchngehbngghaa", sum := "4c62eca4c46a74812b2ff25f9514f1e5b8e95a8b2dbd4f2e4638e9afe43e4dbc", func := "loop.example/g01377/laws.FnExactWinsStrips", spec := "fnExactWinsStrips", unfollowed := true, recurses := true, apart := false, narrowed := true }
def FnExactWinsStripsUptoSaid : Prop := fnExactWinsStripsUptoRow.holds Try.pinned (OpenSpec.upto fnExactWinsStripsSpec)

/-- 'laws.FnExactGoodStrips', WHERE WHAT IT READS IS OF BULK AT MOST 1048576: true; the input reads as it did. -/
def fnExactGoodStripsUptoRow : OpenClaim := { program := "ytjchngehbngghaa", sum := "4c62eca4c46a74812b2ff25f9514f1e5b8e95a8b2dbd4f2e4638e9afe43e4dbc", func := "loop.example/g01377/laws.FnExactGoodStrips", spec := "fnExactGoodStrips", unfollowed := true, recurses := true, apart := false, narrowed := true }
def FnExactGoodStripsUptoSaid : Prop := fnExactGoodStripsUptoRow.holds Try.pinned (OpenSpec.upto fnExactGoodStripsSpec)

end Rows
end Go.Proofs.Ytjchngehbngghaa
