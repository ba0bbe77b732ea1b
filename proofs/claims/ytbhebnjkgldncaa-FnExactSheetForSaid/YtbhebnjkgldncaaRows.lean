/-
  No cell of these rows narrows 'for every input' (looked for: loops, veiled, ifaces, maps, wideKeys, modest, calm, conditions, laid).
  DERIVED. THE GIVEN ROWS OF THIS SEAT. 12 by the template 'for every input the law returns true; each argument reads behind the call as it read before'; 0 by the template 'total and deterministic' (their statements: YtbhebnjkgldncaaTotals.lean).
  GIVEN WITH THE SEED: the statements are not yours to turn. If you find one false, say at which input.
  Laid BY PROGRAM, IN A SANDBOX (cutbox-rows.mjs): the forced cells as the released guide's own fill.sh prints them over the translation 7b8504478c8451e1… (all of the seat's roots in one cut). By AI agents, Wed Nov 11 2026. No macro, syntax, notation, axiom, sorry.
-/
import Derived.Test.YtbhebnjkgldncaaChecked
import GoSem.Claim
import GoSem.ClaimJoined
import GoSem.ClaimMapViews
import Derived.JoinedTies
import Derived.KernelRfl
namespace Go.Proofs.Ytbhebnjkgldncaa
/- THE CELL 'sum', in the pinned program and in every row, IS THE sha256 OF THE DUMP (.gsa) THAT YtbhebnjkgldncaaProg.lean LOADS. Nothing in Lean hashes anything: it is a label: what it is worth is what the hold of that sum in a sandbox is worth. -/
noncomputable def Try.pinned : Pinned := { name := "ytbhebnjkgldncaa", sum := "7b8504478c8451e12eef23becd5b5ace570054c911602115fa40d26dc56b2315", checked := Try.checked }
namespace Rows
def none {H : Type} : Left H := { results := [], args := [] }

/-- 'laws.FnExactWeighGroups': WHATEVER THE INPUT: true; the input reads as it did. -/
def fnExactWeighGroupsSpec : ChangeSpec := { name := "fnExactWeighGroups", fn := fun _ => fun
  | [d] => { results := [.lit (.bool true)], args := [d] }
  | _ => none }
def fnExactWeighGroupsRow : OpenClaim := { program := "ytbhebnjkgldncaa", sum := "7b8504478c8451e12eef23becd5b5ace570054c911602115fa40d26dc56b2315", func := "loop.example/g01377/laws.FnExactWeighGroups", spec := "fnExactWeighGroups", apart := false }
def FnExactWeighGroupsSaid : Prop := fnExactWeighGroupsRow.holds Try.pinned (OpenSpec.ofChange fnExactWeighGroupsSpec)

/-- ITS FALSE NEIGHBOUR: 'it returns false'. Refute it at one input. -/
def fnExactWeighGroupsWrong : ChangeSpec := { name := "fnExactWeighGroups", fn := fun _ => fun
  | [d] => { results := [.lit (.bool false)], args := [d] }
  | _ => none }
def FnExactWeighGroupsWrongFalsely : Prop := fnExactWeighGroupsRow.holds Try.pinned (OpenSpec.ofChange fnExactWeighGroupsWrong)

/-- 'laws.FnExactIsBox': WHATEVER THE INPUT: true; the input reads as it did. -/
def fnExactIsBoxSpec : ChangeSpec := { name := "fnExactIsBox", fn := fun _ => fun
  | [d] => { results := [.lit (.bool true)], args := [d] }
  | _ => none }
def fnExactIsBoxRow : OpenClaim := { program := "ytbhebnjkgldncaa", sum := "7b8504478c8451e12eef23becd5b5ace570054c911602115fa40d26dc56b2315", func := "loop.example/g01377/laws.FnExactIsBox", spec := "fnExactIsBox", apart := false }
def FnExactIsBoxSaid : Prop := fnExactIsBoxRow.holds Try.pinned (OpenSpec.ofChange fnExactIsBoxSpec)

/-- ITS FALSE NEIGHBOUR: 'it returns false'. Refute it at one input. -/
def fnExactIsBoxWrong : ChangeSpec := { name := "fnExactIsBox", fn := fun _ => fun
  | [d] => { results := [.lit (.bool false)], args := [d] }
  | _ => none }
def FnExactIsBoxWrongFalsely : Prop := fnExactIsBoxRow.holds Try.pinned (OpenSpec.ofChange fnExactIsBoxWrong)

/-- 'laws.FnExactWinsPlain': WHATEVER THE INPUT: true; the input reads as it did. -/
def fnExactWinsPlainSpec : ChangeSpec := { name := "fnExactWinsPlain", fn := fun _ => fun
  | [d] => { results := [.lit (.bool true)], args := [d] }
  | _ => none }
def fnExactWinsPlainRow : OpenClaim := { program := "ytbhebnjkgldncaa", sum := "7b8504478c8451e12eef23becd5b5ace570054c911602115fa40d26dc56b2315", func := "loop.example/g01377/laws.FnExactWinsPlain", spec := "fnExactWinsPlain", apart := false }
def FnExactWinsPlainSaid : Prop := fnExactWinsPlainRow.holds Try.pinned (OpenSpec.ofChange fnExactWinsPlainSpec)

/-- ITS FALSE NEIGHBOUR: 'it returns false'. Refute it at one input. -/
def fnExactWinsPlainWrong : ChangeSpec := { name := "fnExactWinsPlain", fn := fun _ => fun
  | [d] => { results := [.lit (.bool false)], args := [d] }
  | _ => none }
def FnExactWinsPlainWrongFalsely : Prop := fnExactWinsPlainRow.holds Try.pinned (OpenSpec.ofChange fnExactWinsPlainWrong)

/-- 'laws.FnExactWeighingsFor': WHATEVER THE INPUT: true; the input reads as it did. -/
def fnExactWeighingsForSpec : ChangeSpec := { name := "fnExactWeighingsFor", fn := fun _ => fun
  | [d] => { results := [.lit (.bool true)], args := [d] }
  | _ => none }
def fnExactWeighingsForRow : OpenClaim := { program := "ytbhebnjkgldncaa", sum := "7b8504478c8451e12eef23becd5b5ace570054c911602115fa40d26dc56b2315", func := "loop.example/g01377/laws.FnExactWeighingsFor", spec := "fnExactWeighingsFor", apart := false }
def FnExactWeighingsForSaid : Prop := fnExactWeighingsForRow.holds Try.pinned (OpenSpec.ofChange fnExactWeighingsForSpec)

/-- ITS FALSE NEIGHBOUR: 'it returns false'. Refute it at one input. -/
def fnExactWeighingsForWrong : ChangeSpec := { name := "fnExactWeighingsFor", fn := fun _ => fun
  | [d] => { results := [.lit (.bool false)], args := [d] }
  | _ => none }
def FnExactWeighingsForWrongFalsely : Prop := fnExactWeighingsForRow.holds Try.pinned (OpenSpec.ofChange fnExactWeighingsForWrong)

/-- 'laws.FnExactKeptHeap': WHATEVER THE INPUT: true; the input reads as it did. -/
def fnExactKeptHeapSpec : ChangeSpec := { name := "fnExactKeptHeap", fn := fun _ => fun
  | [d] => { results := [.lit (.bool true)], args := [d] }
  | _ => none }
def fnExactKeptHeapRow : OpenClaim := { program := "ytbhebnjkgldncaa", sum := "7b8504478c8451e12eef23becd5b5ace570054c911602115fa40d26dc56b2315", func := "loop.example/g01377/laws.FnExactKeptHeap", spec := "fnExactKeptHeap", apart := false }
def FnExactKeptHeapSaid : Prop := fnExactKeptHeapRow.holds Try.pinned (OpenSpec.ofChange fnExactKeptHeapSpec)

/-- ITS FALSE NEIGHBOUR: 'it returns false'. Refute it at one input. -/
def fnExactKeptHeapWrong : ChangeSpec := { name := "fnExactKeptHeap", fn := fun _ => fun
  | [d] => { results := [.lit (.bool false)], args := [d] }
  | _ => none }
def FnExactKeptHeapWrongFalsely : Prop := fnExactKeptHeapRow.holds Try.pinned (OpenSpec.ofChange fnExactKeptHeapWrong)

/-- 'laws.FnExactRibbonOf': WHATEVER THE INPUT: true; the input reads as it did. -/
def fnExactRibbonOfSpec : ChangeSpec := { name := "fnExactRibbonOf", fn := fun _ => fun
  | [d1, d2] => { results := [.lit (.bool true)], args := [d1, d2] }
  | _ => none }
def fnExactRibbonOfRow : OpenClaim := { program := "ytbhebnjkgldncaa", sum := "7b8504478c8451e12eef23becd5b5ace570054c911602115fa40d26dc56b2315", func := "loop.example/g01377/laws.FnExactRibbonOf", spec := "fnExactRibbonOf", apart := false }
def FnExactRibbonOfSaid : Prop := fnExactRibbonOfRow.holds Try.pinned (OpenSpec.ofChange fnExactRibbonOfSpec)

/-- ITS FALSE NEIGHBOUR: 'it returns false'. Refute it at one input. -/
def fnExactRibbonOfWrong : ChangeSpec := { name := "fnExactRibbonOf", fn := fun _ => fun
  | [d1, d2] => { results := [.lit (.bool false)], args := [d1, d2] }
  | _ => none }
def FnExactRibbonOfWrongFalsely : Prop := fnExactRibbonOfRow.holds Try.pinned (OpenSpec.ofChange fnExactRibbonOfWrong)

/-- 'laws.FnExactVolumeOf': WHATEVER THE INPUT: true; the input reads as it did. -/
def fnExactVolumeOfSpec : ChangeSpec := { name := "fnExactVolumeOf", fn := fun _ => fun
  | [d] => { results := [.lit (.bool true)], args := [d] }
  | _ => none }
def fnExactVolumeOfRow : OpenClaim := { program := "ytbhebnjkgldncaa", sum := "7b8504478c8451e12eef23becd5b5ace570054c911602115fa40d26dc56b2315", func := "loop.example/g01377/laws.FnExactVolumeOf", spec := "fnExactVolumeOf", apart := false }
def FnExactVolumeOfSaid : Prop := fnExactVolumeOfRow.holds Try.pinned (OpenSpec.ofChange fnExactVolumeOfSpec)

/-- ITS FALSE NEIGHBOUR: 'it returns false'. Refute it at one input. -/
def fnExactVolumeOfWrong : ChangeSpec := { name := "fnExactVolumeOf", fn := fun _ => fun
  | [d] => { results := [.lit (.bool false)], args := [d] }
  | _ => none }
def FnExactVolumeOfWrongFalsely : Prop := fnExactVolumeOfRow.holds Try.pinned (OpenSpec.ofChange fnExactVolumeOfWrong)

/-- 'laws.FnExactWinsKept': WHATEVER THE INPUT: true; the input reads as it did. -/
def fnExactWinsKeptSpec : ChangeSpec := { name := "fnExactWinsKept", fn := fun _ => fun
  | [d] => { results := [.lit (.bool true)], args := [d] }
  | _ => none }
def fnExactWinsKeptRow : OpenClaim := { program := "ytbhebnjkgldncaa", sum := "7b8504478c8451e12eef23becd5b5ace570054c911602115fa40d26dc56b2315", func := "loop.example/g01377/laws.FnExactWinsKept", spec := "fnExactWinsKept", apart := false }
def FnExactWinsKeptSaid : Prop := fnExactWinsKeptRow.holds Try.pinned (OpenSpec.ofChange fnExactWinsKeptSpec)

/-- ITS FALSE NEIGHBOUR: 'it returns false'. Refute it at one input. -/
def fnExactWinsKeptWrong : ChangeSpec := { name := "fnExactWinsKept", fn := fun _ => fun
  | [d] => { results := [.lit (.bool false)], args := [d] }
  | _ => none }
def FnExactWinsKeptWrongFalsely : Prop := fnExactWinsKeptRow.holds Try.pinned (OpenSpec.ofChange fnExactWinsKeptWrong)

/-- 'laws.FnExactPaperOf': WHATEVER THE INPUT: true; the input reads as it did. -/
def fnExactPaperOfSpec : ChangeSpec := { name := "fnExactPaperOf", fn := fun _ => fun
  | [d] => { results := [.lit (.bool true)], args := [d] }
  | _ => none }
def fnExactPaperOfRow : OpenClaim := { program := "ytbhebnjkgldncaa", sum := "7b8504478c8451e12eef23becd5b5ace570054c911602115fa40d26dc56b2315", func := "loop.example/g01377/laws.FnExactPaperOf", spec := "fnExactPaperOf", apart := false }
def FnExactPaperOfSaid : Prop := fnExactPaperOfRow.holds Try.pinned (OpenSpec.ofChange fnExactPaperOfSpec)

/-- ITS FALSE NEIGHBOUR: 'it returns false'. Refute it at one input. -/
def fnExactPaperOfWrong : ChangeSpec := { name := "fnExactPaperOf", fn := fun _ => fun
  | [d] => { results := [.lit (.bool false)], args := [d] }
  | _ => none }
def FnExactPaperOfWrongFalsely : Prop := fnExactPaperOfRow.holds Try.pinned (OpenSpec.ofChange fnExactPaperOfWrong)

/-- 'laws.FnExactGridFor': WHATEVER THE INPUT: true; the input reads as it did. -/
def fnExactGridForSpec : ChangeSpec := { name := "fnExactGridFor", fn := fun _ => fun
  | [d] => { results := [.lit (.bool true)], args := [d] }
  | _ => none }
def fnExactGridForRow : OpenClaim := { program := "ytbhebnjkgldncaa", sum := "7b8504478c8451e12eef23becd5b5ace570054c911602115fa40d26dc56b2315", func := "loop.example/g01377/laws.FnExactGridFor", spec := "fnExactGridFor", apart := false }
def FnExactGridForSaid : Prop := fnExactGridForRow.holds Try.pinned (OpenSpec.ofChange fnExactGridForSpec)

/-- ITS FALSE NEIGHBOUR: 'it returns false'. Refute it at one input. -/
def fnExactGridForWrong : ChangeSpec := { name := "fnExactGridFor", fn := fun _ => fun
  | [d] => { results := [.lit (.bool false)], args := [d] }
  | _ => none }
def FnExactGridForWrongFalsely : Prop := fnExactGridForRow.holds Try.pinned (OpenSpec.ofChange fnExactGridForWrong)

/-- 'laws.FnExactFitsSheet': WHATEVER THE INPUT: true; the input reads as it did. -/
def fnExactFitsSheetSpec : ChangeSpec := { name := "fnExactFitsSheet", fn := fun _ => fun
  | [d1, d2, d3, d4] => { results := [.lit (.bool true)], args := [d1, d2, d3, d4] }
  | _ => none }
def fnExactFitsSheetRow : OpenClaim := { program := "ytbhebnjkgldncaa", sum := "7b8504478c8451e12eef23becd5b5ace570054c911602115fa40d26dc56b2315", func := "loop.example/g01377/laws.FnExactFitsSheet", spec := "fnExactFitsSheet", apart := false }
def FnExactFitsSheetSaid : Prop := fnExactFitsSheetRow.holds Try.pinned (OpenSpec.ofChange fnExactFitsSheetSpec)

/-- ITS FALSE NEIGHBOUR: 'it returns false'. Refute it at one input. -/
def fnExactFitsSheetWrong : ChangeSpec := { name := "fnExactFitsSheet", fn := fun _ => fun
  | [d1, d2, d3, d4] => { results := [.lit (.bool false)], args := [d1, d2, d3, d4] }
  | _ => none }
def FnExactFitsSheetWrongFalsely : Prop := fnExactFitsSheetRow.holds Try.pinned (OpenSpec.ofChange fnExactFitsSheetWrong)

/-- 'laws.FnExactSheetFor': WHATEVER THE INPUT: true; the input reads as it did. -/
def fnExactSheetForSpec : ChangeSpec := { name := "fnExactSheetFor", fn := fun _ => fun
  | [d1, d2] => { results := [.lit (.bool true)], args := [d1, d2] }
  | _ => none }
def fnExactSheetForRow : OpenClaim := { program := "ytbhebnjkgldncaa", sum := "7b8504478c8451e12eef23becd5b5ace570054c911602115fa40d26dc56b2315", func := "loop.example/g01377/laws.FnExactSheetFor", spec := "fnExactSheetFor", apart := false }
def FnExactSheetForSaid : Prop := fnExactSheetForRow.holds Try.pinned (OpenSpec.ofChange fnExactSheetForSpec)

/-- ITS FALSE NEIGHBOUR: 'it returns false'. Refute it at one input. -/
def fnExactSheetForWrong : ChangeSpec := { name := "fnExactSheetFor", fn := fun _ => fun
  | [d1, d2] => { results := [.lit (.bool false)], args := [d1, d2] }
  | _ => none }
def FnExactSheetForWrongFalsely : Prop := fnExactSheetForRow.holds Try.pinned (OpenSpec.ofChange fnExactSheetForWrong)

/- THE SECOND FORM. 'bulk': how many values and letters a reading holds, each counted each time it is reached (what is shared counts as often as it is met; a slice's spare places count too). A statement '..UptoSaid' is the law's where the arguments, and the package variables that the reading takes, are together of bulk at most 1048576: NARROWER than '..Said'. Prove '..Said' where nothing that the law and all that it calls make is longer than what came in: it says more and counts as full. Else prove '..UptoSaid'. A law counts once. -/
mutual
def uptoBulk {H : Type} : DataW H → Nat
  | .lit (.string bytes) => bytes.length + 1
  | .lit _ => 1
  | .nil => 1
  | .ptr d => uptoBulk d + 1
  | .slice elems spare => uptoBulkAll elems + uptoBulkAll spare + 1
  | .agg parts => uptoBulkAll parts + 1
  | .iface _ d => uptoBulk d + 1
  | .map entries => uptoBulkEntries entries + 1
  | .held _ => 1
def uptoBulkAll {H : Type} : List (DataW H) → Nat
  | [] => 0
  | d :: r => uptoBulk d + uptoBulkAll r
def uptoBulkEntries {H : Type} : List (Lit × DataW H) → Nat
  | [] => 0
  | x :: r => uptoBulkEntry x + uptoBulkEntries r
def uptoBulkEntry {H : Type} : Lit × DataW H → Nat
  | (.string bytes, d) => bytes.length + uptoBulk d + 1
  | (_, d) => uptoBulk d + 1
 end
def uptoSmall : (H : Type) → List (DataW H) → Bool := fun _ ds => decide (uptoBulkAll ds ≤ 1048576)
def OpenSpec.upto (s : _root_.Go.ChangeSpec) : _root_.Go.OpenSpec := { _root_.Go.OpenSpec.ofChange s with cond := some uptoSmall }

/-- 'laws.FnExactWeighGroups', WHERE WHAT IT READS IS OF BULK AT MOST 1048576: true; the input reads as it did. -/
def fnExactWeighGroupsUptoRow : OpenClaim := { program := "ytbhebnjkgldncaa", sum := "7b8504478c8451e12eef23becd5b5ace570054c911602115fa40d26dc56b2315", func := "loop.example/g01377/laws.FnExactWeighGroups", spec := "fnExactWeighGroups", apart := false, narrowed := true }
def FnExactWeighGroupsUptoSaid : Prop := fnExactWeighGroupsUptoRow.holds Try.pinned (OpenSpec.upto fnExactWeighGroupsSpec)

/-- 'laws.FnExactIsBox', WHERE WHAT IT READS IS OF BULK AT MOST 1048576: true; the input reads as it did. -/
def fnExactIsBoxUptoRow : OpenClaim := { program := "ytbhebnjkgldncaa", sum := "7b8504478c8451e12eef23becd5b5ace570054c911602115fa40d26dc56b2315", func := "loop.example/g01377/laws.FnExactIsBox", spec := "fnExactIsBox", apart := false, narrowed := true }
def FnExactIsBoxUptoSaid : Prop := fnExactIsBoxUptoRow.holds Try.pinned (OpenSpec.upto fnExactIsBoxSpec)

/-- 'laws.FnExactWinsPlain', WHERE WHAT IT READS IS OF BULK AT MOST 1048576: true; the input reads as it did. -/
def fnExactWinsPlainUptoRow : OpenClaim := { program := "ytbhebnjkgldncaa", sum := "7b8504478c8451e12eef23becd5b5ace570054c911602115fa40d26dc56b2315", func := "loop.example/g01377/laws.FnExactWinsPlain", spec := "fnExactWinsPlain", apart := false, narrowed := true }
def FnExactWinsPlainUptoSaid : Prop := fnExactWinsPlainUptoRow.holds Try.pinned (OpenSpec.upto fnExactWinsPlainSpec)

/-- 'laws.FnExactWeighingsFor', WHERE WHAT IT READS IS OF BULK AT MOST 1048576: true; the input reads as it did. -/
def fnExactWeighingsForUptoRow : OpenClaim := { program := "ytbhebnjkgldncaa", sum := "7b8504478c8451e12eef23becd5b5ace570054c911602115fa40d26dc56b2315", func := "loop.example/g01377/laws.FnExactWeighingsFor", spec := "fnExactWeighingsFor", apart := false, narrowed := true }
def FnExactWeighingsForUptoSaid : Prop := fnExactWeighingsForUptoRow.holds Try.pinned (OpenSpec.upto fnExactWeighingsForSpec)

/-- 'laws.FnExactKeptHeap', WHERE WHAT IT READS IS OF BULK AT MOST 1048576: true; the input reads as it did. -/
def fnExactKeptHeapUptoRow : OpenClaim := { program := "ytbhebnjkgldncaa", sum := "7b8504478c8451e12eef23becd5b5ace570054c911602115fa40d26dc56b2315", func := "loop.example/g01377/laws.FnExactKeptHeap", spec := "fnExactKeptHeap", apart := false, narrowed := true }
def FnExactKeptHeapUptoSaid : Prop := fnExactKeptHeapUptoRow.holds Try.pinned (OpenSpec.upto fnExactKeptHeapSpec)

/-- 'laws.FnExactRibbonOf', WHERE WHAT IT READS IS OF BULK AT MOST 1048576: true; the input reads as it did. -/
def fnExactRibbonOfUptoRow : OpenClaim := { program := "ytbhebnjkgldncaa", sum := "7b8504478c8451e12eef23becd5b5ace570054c911602115fa40d26dc56b2315", func := "loop.example/g01377/laws.FnExactRibbonOf", spec := "fnExactRibbonOf", apart := false, narrowed := true }
def FnExactRibbonOfUptoSaid : Prop := fnExactRibbonOfUptoRow.holds Try.pinned (OpenSpec.upto fnExactRibbonOfSpec)

/-- 'laws.FnExactVolumeOf', WHERE WHAT IT READS IS OF BULK AT MOST 1048576: true; the input reads as it did. -/
def fnExactVolumeOfUptoRow : OpenClaim := { program := "ytbhebnjkgldncaa", sum := "7b8504478c8451e12eef23becd5b5ace570054c911602115fa40d26dc56b2315", func := "loop.example/g01377/laws.FnExactVolumeOf", spec := "fnExactVolumeOf", apart := false, narrowed := true }
def FnExactVolumeOfUptoSaid : Prop := fnExactVolumeOfUptoRow.holds Try.pinned (OpenSpec.upto fnExactVolumeOfSpec)

/-- 'laws.FnExactWinsKept', WHERE WHAT IT READS IS OF BULK AT MOST 1048576: true; the input reads as it did. -/
def fnExactWinsKeptUptoRow : OpenClaim := { program := "ytbhebnjkgldncaa", sum := "7b8504478c8451e12eef23becd5b5ace570054c911602115fa40d26dc56b2315", func := "loop.example/g01377/laws.FnExactWinsKept", spec := "fnExactWinsKept", apart := false, narrowed := true }
def FnExactWinsKeptUptoSaid : Prop := fnExactWinsKeptUptoRow.holds Try.pinned (OpenSpec.upto fnExactWinsKeptSpec)

/-- 'laws.FnExactPaperOf', WHERE WHAT IT READS IS OF BULK AT MOST 1048576: true; the input reads as it did. -/
def fnExactPaperOfUptoRow : OpenClaim := { program := "ytbhebnjkgldncaa", sum := "7b8504478c8451e12eef23becd5b5ace570054c911602115fa40d26dc56b2315", func := "loop.example/g01377/laws.FnExactPaperOf", spec := "fnExactPaperOf", apart := false, narrowed := true }
def FnExactPaperOfUptoSaid : Prop := fnExactPaperOfUptoRow.holds Try.pinned (OpenSpec.upto fnExactPaperOfSpec)

/-- 'laws.FnExactGridFor', WHERE WHAT IT READS IS OF BULK AT MOST 1048576: true; the input reads as it did. -/
def fnExactGridForUptoRow : OpenClaim := { program := "ytbhebnjkgldncaa", sum := "7b8504478c8451e12eef23becd5b5ace570054c911602115fa40d26dc56b2315", func := "loop.example/g01377/laws.FnExactGridFor", spec := "fnExactGridFor", apart := false, narrowed := true }
def FnExactGridForUptoSaid : Prop := fnExactGridForUptoRow.holds Try.pinned (OpenSpec.upto fnExactGridForSpec)

/-- 'laws.FnExactFitsSheet', WHERE WHAT IT READS IS OF BULK AT MOST 1048576: true; the input reads as it did. -/
def fnExactFitsSheetUptoRow : OpenClaim := { program := "ytbhebnjkgldncaa", sum := "7b8504478c8451e12eef23becd5b5ace570054c911602115fa40d26dc56b2315", func := "loop.example/g01377/laws.FnExactFitsSheet", spec := "fnExactFitsSheet", apart := false, narrowed := true }
def FnExactFitsSheetUptoSaid : Prop := fnExactFitsSheetUptoRow.holds Try.pinned (OpenSpec.upto fnExactFitsSheetSpec)

/-- 'laws.FnExactSheetFor', WHERE WHAT IT READS IS OF BULK AT MOST 1048576: true; the input reads as it did. -/
def fnExactSheetForUptoRow : OpenClaim := { program := "ytbhebnjkgldncaa", sum := "7b8504478c8451e12eef23becd5b5ace570054c911602115fa40d26dc56b2315", func := "loop.example/g01377/laws.FnExactSheetFor", spec := "fnExactSheetFor", apart := false, narrowed := true }
def FnExactSheetForUptoSaid : Prop := fnExactSheetForUptoRow.holds Try.pinned (OpenSpec.upto fnExactSheetForSpec)

end Rows
end Go.Proofs.Ytbhebnjkgldncaa
