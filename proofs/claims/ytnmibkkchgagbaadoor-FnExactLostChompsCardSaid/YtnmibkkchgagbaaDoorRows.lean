/-
  NARROWER THAN 'FOR EVERY INPUT', by the rows' own cells (each row's printed sentence says how): FnExactChompText: laid · FnExactCountLostChomps: laid · FnExactHeapOfChomp: laid · FnExactWinsChomp: laid · FnExactFirstGoodChomp: laid · FnExactQuickestWin: laid · FnExactLostChomps: laid · FnExactGoodChomps: laid.
  DERIVED. THE GIVEN ROWS OF THIS SEAT. 8 by the template 'for every input the law returns true; each argument reads behind the call as it read before'; 0 by the template 'total and deterministic' (their statements: YtnmibkkchgagbaaDoorTotals.lean).
  GIVEN WITH THE SEED: the statements are not yours to turn. If you find one false, say at which input.
  Laid BY PROGRAM, IN A SANDBOX (cutbox-rows.mjs): the forced cells as the released guide's own fill.sh prints them over the translation bd6d4f0e4c26e7c2… (all of the seat's roots in one cut). By AI agents, Wed Nov 11 2026. No macro, syntax, notation, axiom, sorry.
-/
import Derived.Test.YtnmibkkchgagbaaDoorChecked
import GoSem.Claim
import GoSem.ClaimJoined
import GoSem.ClaimMapViews
import Derived.JoinedTies
import Derived.KernelRfl
namespace Go.Proofs.YtnmibkkchgagbaaDoor
/- THE CELL 'sum', in the pinned program and in every row, IS THE sha256 OF THE DUMP (.gsa) THAT YtnmibkkchgagbaaDoorProg.lean LOADS. Nothing in Lean hashes anything: it is a label: what it is worth is what the hold of that sum in a sandbox is worth. -/
noncomputable def Tryd.pinned : Pinned := { name := "ytnmibkkchgagbaadoor", sum := "bd6d4f0e4c26e7c2e15a5e8283795dfc23bcd469106654600339f78fccb6b3d1", checked := Tryd.checked }
namespace Rows
def none {H : Type} : Left H := { results := [], args := [] }

/- WHAT THE LISTED PACKAGE-LEVEL VARIABLES READ AS WHEN THE CALL BEGINS. Each datum BY PROGRAM (the guide's laid-datum.mjs) off the statement by which the dump's own 'gosem.cut.vars' lays the variable. In a bare row this is a premise. The card (YtnmibkkchgagbaaDoorCards.lean) ties it to the program's text. -/
def laid_math_bits_deBruijn32tab {H : Type} : DataW H := .agg [.lit (.int .u8 0), .lit (.int .u8 1), .lit (.int .u8 28), .lit (.int .u8 2), .lit (.int .u8 29), .lit (.int .u8 14), .lit (.int .u8 24), .lit (.int .u8 3), .lit (.int .u8 30), .lit (.int .u8 22), .lit (.int .u8 20), .lit (.int .u8 15), .lit (.int .u8 25), .lit (.int .u8 17), .lit (.int .u8 4), .lit (.int .u8 8), .lit (.int .u8 31), .lit (.int .u8 27), .lit (.int .u8 13), .lit (.int .u8 23), .lit (.int .u8 21), .lit (.int .u8 19), .lit (.int .u8 16), .lit (.int .u8 7), .lit (.int .u8 26), .lit (.int .u8 12), .lit (.int .u8 18), .lit (.int .u8 6), .lit (.int .u8 11), .lit (.int .u8 5), .lit (.int .u8 10), .lit (.int .u8 9)]
def laid_math_bits_deBruijn64tab {H : Type} : DataW H := .agg [.lit (.int .u8 0), .lit (.int .u8 1), .lit (.int .u8 56), .lit (.int .u8 2), .lit (.int .u8 57), .lit (.int .u8 49), .lit (.int .u8 28), .lit (.int .u8 3), .lit (.int .u8 61), .lit (.int .u8 58), .lit (.int .u8 42), .lit (.int .u8 50), .lit (.int .u8 38), .lit (.int .u8 29), .lit (.int .u8 17), .lit (.int .u8 4), .lit (.int .u8 62), .lit (.int .u8 47), .lit (.int .u8 59), .lit (.int .u8 36), .lit (.int .u8 45), .lit (.int .u8 43), .lit (.int .u8 51), .lit (.int .u8 22), .lit (.int .u8 53), .lit (.int .u8 39), .lit (.int .u8 33), .lit (.int .u8 30), .lit (.int .u8 24), .lit (.int .u8 18), .lit (.int .u8 12), .lit (.int .u8 5), .lit (.int .u8 63), .lit (.int .u8 55), .lit (.int .u8 48), .lit (.int .u8 27), .lit (.int .u8 60), .lit (.int .u8 41), .lit (.int .u8 37), .lit (.int .u8 16), .lit (.int .u8 46), .lit (.int .u8 35), .lit (.int .u8 44), .lit (.int .u8 21), .lit (.int .u8 52), .lit (.int .u8 32), .lit (.int .u8 23), .lit (.int .u8 11), .lit (.int .u8 54), .lit (.int .u8 26), .lit (.int .u8 40), .lit (.int .u8 15), .lit (.int .u8 34), .lit (.int .u8 20), .lit (.int .u8 31), .lit (.int .u8 10), .lit (.int .u8 25), .lit (.int .u8 14), .lit (.int .u8 19), .lit (.int .u8 9), .lit (.int .u8 13), .lit (.int .u8 8), .lit (.int .u8 7), .lit (.int .u8 6)]
def laid_internal_strconv_uint64pow10 {H : Type} : DataW H := .agg [.lit (.int .u64 1), .lit (.int .u64 10), .lit (.int .u64 100), .lit (.int .u64 1000), .lit (.int .u64 10000), .lit (.int .u64 100000), .lit (.int .u64 1000000), .lit (.int .u64 10000000), .lit (.int .u64 100000000), .lit (.int .u64 1000000000), .lit (.int .u64 10000000000), .lit (.int .u64 100000000000), .lit (.int .u64 1000000000000), .lit (.int .u64 10000000000000), .lit (.int .u64 100000000000000), .lit (.int .u64 1000000000000000), .lit (.int .u64 10000000000000000), .lit (.int .u64 100000000000000000), .lit (.int .u64 1000000000000000000), .lit (.int .u64 10000000000000000000)]

/-- 'laws.FnExactChompText': WHATEVER THE INPUT: true; the input reads as it did. -/
def fnExactChompTextSpec : ChangeSpec := { name := "fnExactChompText", fn := fun _ => fun
  | [d] => { results := [.lit (.bool true)], args := [d] }
  | _ => none }
def fnExactChompTextRow : OpenClaim := { program := "ytnmibkkchgagbaadoor", sum := "bd6d4f0e4c26e7c2e15a5e8283795dfc23bcd469106654600339f78fccb6b3d1", func := "loop.example/g01377/laws.FnExactChompText", spec := "fnExactChompText", inPlace := ["internal/abi.NoEscape", "internal/bytealg.MakeNoZero"], unfollowed := true, recurses := true, named := ["internal/strconv.uint64pow10", "math/bits.deBruijn32tab", "math/bits.deBruijn64tab"], apart := false, laid := [("math/bits.deBruijn32tab", laid_math_bits_deBruijn32tab), ("math/bits.deBruijn64tab", laid_math_bits_deBruijn64tab), ("internal/strconv.uint64pow10", laid_internal_strconv_uint64pow10)] }
def FnExactChompTextSaid : Prop := fnExactChompTextRow.holds Tryd.pinned (OpenSpec.ofChange fnExactChompTextSpec)

/-- ITS FALSE NEIGHBOUR: 'it returns false'. Refute it at one input. -/
def fnExactChompTextWrong : ChangeSpec := { name := "fnExactChompText", fn := fun _ => fun
  | [d] => { results := [.lit (.bool false)], args := [d] }
  | _ => none }
def FnExactChompTextWrongFalsely : Prop := fnExactChompTextRow.holds Tryd.pinned (OpenSpec.ofChange fnExactChompTextWrong)

/-- 'laws.FnExactCountLostChomps': WHATEVER THE INPUT: true; the input reads as it did. -/
def fnExactCountLostChompsSpec : ChangeSpec := { name := "fnExactCountLostChomps", fn := fun _ => fun
  | [d1, d2] => { results := [.lit (.bool true)], args := [d1, d2] }
  | _ => none }
def fnExactCountLostChompsRow : OpenClaim := { program := "ytnmibkkchgagbaadoor", sum := "bd6d4f0e4c26e7c2e15a5e8283795dfc23bcd469106654600339f78fccb6b3d1", func := "loop.example/g01377/laws.FnExactCountLostChomps", spec := "fnExactCountLostChomps", inPlace := ["internal/abi.NoEscape", "internal/bytealg.MakeNoZero"], unfollowed := true, recurses := true, named := ["internal/strconv.uint64pow10", "math/bits.deBruijn32tab", "math/bits.deBruijn64tab"], apart := false, laid := [("math/bits.deBruijn32tab", laid_math_bits_deBruijn32tab), ("math/bits.deBruijn64tab", laid_math_bits_deBruijn64tab), ("internal/strconv.uint64pow10", laid_internal_strconv_uint64pow10)] }
def FnExactCountLostChompsSaid : Prop := fnExactCountLostChompsRow.holds Tryd.pinned (OpenSpec.ofChange fnExactCountLostChompsSpec)

/-- ITS FALSE NEIGHBOUR: 'it returns false'. Refute it at one input. -/
def fnExactCountLostChompsWrong : ChangeSpec := { name := "fnExactCountLostChomps", fn := fun _ => fun
  | [d1, d2] => { results := [.lit (.bool false)], args := [d1, d2] }
  | _ => none }
def FnExactCountLostChompsWrongFalsely : Prop := fnExactCountLostChompsRow.holds Tryd.pinned (OpenSpec.ofChange fnExactCountLostChompsWrong)

/-- 'laws.FnExactHeapOfChomp': WHATEVER THE INPUT: true; the input reads as it did. -/
def fnExactHeapOfChompSpec : ChangeSpec := { name := "fnExactHeapOfChomp", fn := fun _ => fun
  | [d] => { results := [.lit (.bool true)], args := [d] }
  | _ => none }
def fnExactHeapOfChompRow : OpenClaim := { program := "ytnmibkkchgagbaadoor", sum := "bd6d4f0e4c26e7c2e15a5e8283795dfc23bcd469106654600339f78fccb6b3d1", func := "loop.example/g01377/laws.FnExactHeapOfChomp", spec := "fnExactHeapOfChomp", inPlace := ["internal/abi.NoEscape", "internal/bytealg.MakeNoZero"], unfollowed := true, recurses := true, named := ["internal/strconv.uint64pow10", "math/bits.deBruijn32tab", "math/bits.deBruijn64tab"], apart := false, laid := [("math/bits.deBruijn32tab", laid_math_bits_deBruijn32tab), ("math/bits.deBruijn64tab", laid_math_bits_deBruijn64tab), ("internal/strconv.uint64pow10", laid_internal_strconv_uint64pow10)] }
def FnExactHeapOfChompSaid : Prop := fnExactHeapOfChompRow.holds Tryd.pinned (OpenSpec.ofChange fnExactHeapOfChompSpec)

/-- ITS FALSE NEIGHBOUR: 'it returns false'. Refute it at one input. -/
def fnExactHeapOfChompWrong : ChangeSpec := { name := "fnExactHeapOfChomp", fn := fun _ => fun
  | [d] => { results := [.lit (.bool false)], args := [d] }
  | _ => none }
def FnExactHeapOfChompWrongFalsely : Prop := fnExactHeapOfChompRow.holds Tryd.pinned (OpenSpec.ofChange fnExactHeapOfChompWrong)

/-- 'laws.FnExactWinsChomp': WHATEVER THE INPUT: true; the input reads as it did. -/
def fnExactWinsChompSpec : ChangeSpec := { name := "fnExactWinsChomp", fn := fun _ => fun
  | [d] => { results := [.lit (.bool true)], args := [d] }
  | _ => none }
def fnExactWinsChompRow : OpenClaim := { program := "ytnmibkkchgagbaadoor", sum := "bd6d4f0e4c26e7c2e15a5e8283795dfc23bcd469106654600339f78fccb6b3d1", func := "loop.example/g01377/laws.FnExactWinsChomp", spec := "fnExactWinsChomp", inPlace := ["internal/abi.NoEscape", "internal/bytealg.MakeNoZero"], unfollowed := true, recurses := true, named := ["internal/strconv.uint64pow10", "math/bits.deBruijn32tab", "math/bits.deBruijn64tab"], apart := false, laid := [("math/bits.deBruijn32tab", laid_math_bits_deBruijn32tab), ("math/bits.deBruijn64tab", laid_math_bits_deBruijn64tab), ("internal/strconv.uint64pow10", laid_internal_strconv_uint64pow10)] }
def FnExactWinsChompSaid : Prop := fnExactWinsChompRow.holds Tryd.pinned (OpenSpec.ofChange fnExactWinsChompSpec)

/-- ITS FALSE NEIGHBOUR: 'it returns false'. Refute it at one input. -/
def fnExactWinsChompWrong : ChangeSpec := { name := "fnExactWinsChomp", fn := fun _ => fun
  | [d] => { results := [.lit (.bool false)], args := [d] }
  | _ => none }
def FnExactWinsChompWrongFalsely : Prop := fnExactWinsChompRow.holds Tryd.pinned (OpenSpec.ofChange fnExactWinsChompWrong)

/-- 'laws.FnExactFirstGoodChomp': WHATEVER THE INPUT: true; the input reads as it did. -/
def fnExactFirstGoodChompSpec : ChangeSpec := { name := "fnExactFirstGoodChomp", fn := fun _ => fun
  | [d] => { results := [.lit (.bool true)], args := [d] }
  | _ => none }
def fnExactFirstGoodChompRow : OpenClaim := { program := "ytnmibkkchgagbaadoor", sum := "bd6d4f0e4c26e7c2e15a5e8283795dfc23bcd469106654600339f78fccb6b3d1", func := "loop.example/g01377/laws.FnExactFirstGoodChomp", spec := "fnExactFirstGoodChomp", inPlace := ["internal/abi.NoEscape", "internal/bytealg.MakeNoZero"], unfollowed := true, recurses := true, named := ["internal/strconv.uint64pow10", "math/bits.deBruijn32tab", "math/bits.deBruijn64tab"], apart := false, laid := [("math/bits.deBruijn32tab", laid_math_bits_deBruijn32tab), ("math/bits.deBruijn64tab", laid_math_bits_deBruijn64tab), ("internal/strconv.uint64pow10", laid_internal_strconv_uint64pow10)] }
def FnExactFirstGoodChompSaid : Prop := fnExactFirstGoodChompRow.holds Tryd.pinned (OpenSpec.ofChange fnExactFirstGoodChompSpec)

/-- ITS FALSE NEIGHBOUR: 'it returns false'. Refute it at one input. -/
def fnExactFirstGoodChompWrong : ChangeSpec := { name := "fnExactFirstGoodChomp", fn := fun _ => fun
  | [d] => { results := [.lit (.bool false)], args := [d] }
  | _ => none }
def FnExactFirstGoodChompWrongFalsely : Prop := fnExactFirstGoodChompRow.holds Tryd.pinned (OpenSpec.ofChange fnExactFirstGoodChompWrong)

/-- 'laws.FnExactQuickestWin': WHATEVER THE INPUT: true; the input reads as it did. -/
def fnExactQuickestWinSpec : ChangeSpec := { name := "fnExactQuickestWin", fn := fun _ => fun
  | [d] => { results := [.lit (.bool true)], args := [d] }
  | _ => none }
def fnExactQuickestWinRow : OpenClaim := { program := "ytnmibkkchgagbaadoor", sum := "bd6d4f0e4c26e7c2e15a5e8283795dfc23bcd469106654600339f78fccb6b3d1", func := "loop.example/g01377/laws.FnExactQuickestWin", spec := "fnExactQuickestWin", inPlace := ["internal/abi.NoEscape", "internal/bytealg.MakeNoZero"], unfollowed := true, recurses := true, named := ["internal/strconv.uint64pow10", "math/bits.deBruijn32tab", "math/bits.deBruijn64tab"], apart := false, laid := [("math/bits.deBruijn32tab", laid_math_bits_deBruijn32tab), ("math/bits.deBruijn64tab", laid_math_bits_deBruijn64tab), ("internal/strconv.uint64pow10", laid_internal_strconv_uint64pow10)] }
def FnExactQuickestWinSaid : Prop := fnExactQuickestWinRow.holds Tryd.pinned (OpenSpec.ofChange fnExactQuickestWinSpec)

/-- ITS FALSE NEIGHBOUR: 'it returns false'. Refute it at one input. -/
def fnExactQuickestWinWrong : ChangeSpec := { name := "fnExactQuickestWin", fn := fun _ => fun
  | [d] => { results := [.lit (.bool false)], args := [d] }
  | _ => none }
def FnExactQuickestWinWrongFalsely : Prop := fnExactQuickestWinRow.holds Tryd.pinned (OpenSpec.ofChange fnExactQuickestWinWrong)

/-- 'laws.FnExactLostChomps': WHATEVER THE INPUT: true; the input reads as it did. -/
def fnExactLostChompsSpec : ChangeSpec := { name := "fnExactLostChomps", fn := fun _ => fun
  | [d1, d2] => { results := [.lit (.bool true)], args := [d1, d2] }
  | _ => none }
def fnExactLostChompsRow : OpenClaim := { program := "ytnmibkkchgagbaadoor", sum := "bd6d4f0e4c26e7c2e15a5e8283795dfc23bcd469106654600339f78fccb6b3d1", func := "loop.example/g01377/laws.FnExactLostChomps", spec := "fnExactLostChomps", inPlace := ["internal/abi.NoEscape", "internal/bytealg.MakeNoZero"], unfollowed := true, recurses := true, named := ["internal/strconv.uint64pow10", "math/bits.deBruijn32tab", "math/bits.deBruijn64tab"], apart := false, laid := [("math/bits.deBruijn32tab", laid_math_bits_deBruijn32tab), ("math/bits.deBruijn64tab", laid_math_bits_deBruijn64tab), ("internal/strconv.uint64pow10", laid_internal_strconv_uint64pow10)] }
def FnExactLostChompsSaid : Prop := fnExactLostChompsRow.holds Tryd.pinned (OpenSpec.ofChange fnExactLostChompsSpec)

/-- ITS FALSE NEIGHBOUR: 'it returns false'. Refute it at one input. -/
def fnExactLostChompsWrong : ChangeSpec := { name := "fnExactLostChomps", fn := fun _ => fun
  | [d1, d2] => { results := [.lit (.bool false)], args := [d1, d2] }
  | _ => none }
def FnExactLostChompsWrongFalsely : Prop := fnExactLostChompsRow.holds Tryd.pinned (OpenSpec.ofChange fnExactLostChompsWrong)

/-- 'laws.FnExactGoodChomps': WHATEVER THE INPUT: true; the input reads as it did. -/
def fnExactGoodChompsSpec : ChangeSpec := { name := "fnExactGoodChomps", fn := fun _ => fun
  | [d] => { results := [.lit (.bool true)], args := [d] }
  | _ => none }
def fnExactGoodChompsRow : OpenClaim := { program := "ytnmibkkchgagbaadoor", sum := "bd6d4f0e4c26e7c2e15a5e8283795dfc23bcd469106654600339f78fccb6b3d1", func := "loop.example/g01377/laws.FnExactGoodChomps", spec := "fnExactGoodChomps", inPlace := ["internal/abi.NoEscape", "internal/bytealg.MakeNoZero"], unfollowed := true, recurses := true, named := ["internal/strconv.uint64pow10", "math/bits.deBruijn32tab", "math/bits.deBruijn64tab"], apart := false, laid := [("math/bits.deBruijn32tab", laid_math_bits_deBruijn32tab), ("math/bits.deBruijn64tab", laid_math_bits_deBruijn64tab), ("internal/strconv.uint64pow10", laid_internal_strconv_uint64pow10)] }
def FnExactGoodChompsSaid : Prop := fnExactGoodChompsRow.holds Tryd.pinned (OpenSpec.ofChange fnExactGoodChompsSpec)

/-- ITS FALSE NEIGHBOUR: 'it returns false'. Refute it at one input. -/
def fnExactGoodChompsWrong : ChangeSpec := { name := "fnExactGoodChomps", fn := fun _ => fun
  | [d] => { results := [.lit (.bool false)], args := [d] }
  | _ => none }
def FnExactGoodChompsWrongFalsely : Prop := fnExactGoodChompsRow.holds Tryd.pinned (OpenSpec.ofChange fnExactGoodChompsWrong)

/- THE SECOND FORM. 'bulk': how many values and letters a reading holds, each counted each time it is reached (what is shared counts as often as it is met; a slice's spare places count too). A statement '..UptoSaid' is the law's where the arguments, and the package variables that the reading takes, are together of bulk at most 1048576: NARROWER than '..Said'. Prove '..Said' where nothing that the law and all that it calls make is longer than what came in: it says more and counts as full. Else prove '..UptoSaid'. A law counts once. -/
mutual
def uptoBulk {H : Type} : DataW H → Nat
  | .lit (.string bytes) => bytes.length + 1
  | .lit _ => 1
  | .nil => 1
  | .ptr d => uptoBulk d + 1
  | .slice elems spare => uptoBulkAll elems + uptoBulkAll spare + 1
  | .agg parts => uptoBulkAll parts + 1
  | .iface _ d => uptoBulk d + 1
  | .map entries => uptoBulkEntries entries + 1
  | .held _ => 1
def uptoBulkAll {H : Type} : List (DataW H) → Nat
  | [] => 0
  | d :: r => uptoBulk d + uptoBulkAll r
def uptoBulkEntries {H : Type} : List (Lit × DataW H) → Nat
  | [] => 0
  | x :: r => uptoBulkEntry x + uptoBulkEntries r
def uptoBulkEntry {H : Type} : Lit × DataW H → Nat
  | (.string bytes, d) => bytes.length + uptoBulk d + 1
  | (_, d) => uptoBulk d + 1
 end
def uptoSmall : (H : Type) → List (DataW H) → Bool := fun _ ds => decide (uptoBulkAll ds ≤ 1048576)
def OpenSpec.upto (s : _root_.Go.ChangeSpec) : _root_.Go.OpenSpec := { _root_.Go.OpenSpec.ofChange s with cond := some uptoSmall }

/-- 'laws.FnExactChompText', WHERE WHAT IT READS IS OF BULK AT MOST 1048576: true; the input reads as it did. -/
def fnExactChompTextUptoRow : OpenClaim := { program := "ytnmibkkchgagbaadoor", sum := "bd6d4f0e4c26e7c2e15a5e8283795dfc23bcd469106654600339f78fccb6b3d1", func := "loop.example/g01377/laws.FnExactChompText", spec := "fnExactChompText", inPlace := ["internal/abi.NoEscape", "internal/bytealg.MakeNoZero"], unfollowed := true, recurses := true, named := ["internal/strconv.uint64pow10", "math/bits.deBruijn32tab", "math/bits.deBruijn64tab"], apart := false, laid := [("math/bits.deBruijn32tab", laid_math_bits_deBruijn32tab), ("math/bits.deBruijn64tab", laid_math_bits_deBruijn64tab), ("internal/strconv.uint64pow10", laid_internal_strconv_uint64pow10)], narrowed := true }
def FnExactChompTextUptoSaid : Prop := fnExactChompTextUptoRow.holds Tryd.pinned (OpenSpec.upto fnExactChompTextSpec)

/-- 'laws.FnExactCountLostChomps', WHERE WHAT IT READS IS OF BULK AT MOST 1048576: true; the input reads as it did. -/
def fnExactCountLostChompsUptoRow : OpenClaim := { program := "ytnmibkkchgagbaadoor", sum := "bd6d4f0e4c26e7c2e15a5e8283795dfc23bcd469106654600339f78fccb6b3d1", func := "loop.example/g01377/laws.FnExactCountLostChomps", spec := "fnExactCountLostChomps", inPlace := ["internal/abi.NoEscape", "internal/bytealg.MakeNoZero"], unfollowed := true, recurses := true, named := ["internal/strconv.uint64pow10", "math/bits.deBruijn32tab", "math/bits.deBruijn64tab"], apart := false, laid := [("math/bits.deBruijn32tab", laid_math_bits_deBruijn32tab), ("math/bits.deBruijn64tab", laid_math_bits_deBruijn64tab), ("internal/strconv.uint64pow10", laid_internal_strconv_uint64pow10)], narrowed := true }
def FnExactCountLostChompsUptoSaid : Prop := fnExactCountLostChompsUptoRow.holds Tryd.pinned (OpenSpec.upto fnExactCountLostChompsSpec)

/-- 'laws.FnExactHeapOfChomp', WHERE WHAT IT READS IS OF BULK AT MOST 1048576: true; the input reads as it did. -/
def fnExactHeapOfChompUptoRow : OpenClaim := { program := "ytnmibkkchgagbaadoor", sum := "bd6d4f0e4c26e7c2e15a5e8283795dfc23bcd469106654600339f78fccb6b3d1", func := "loop.example/g01377/laws.FnExactHeapOfChomp", spec := "fnExactHeapOfChomp", inPlace := ["internal/abi.NoEscape", "internal/bytealg.MakeNoZero"], unfollowed := true, recurses := true, named := ["internal/strconv.uint64pow10", "math/bits.deBruijn32tab", "math/bits.deBruijn64tab"], apart := false, laid := [("math/bits.deBruijn32tab", laid_math_bits_deBruijn32tab), ("math/bits.deBruijn64tab", laid_math_bits_deBruijn64tab), ("internal/strconv.uint64pow10", laid_internal_strconv_uint64pow10)], narrowed := true }
def FnExactHeapOfChompUptoSaid : Prop := fnExactHeapOfChompUptoRow.holds Tryd.pinned (OpenSpec.upto fnExactHeapOfChompSpec)

/-- 'laws.FnExactWinsChomp', WHERE WHAT IT READS IS OF BULK AT MOST 1048576: true; the input reads as it did. -/
def fnExactWinsChompUptoRow : OpenClaim := { program := "ytnmibkkchgagbaadoor", sum := "bd6d4f0e4c26e7c2e15a5e8283795dfc23bcd469106654600339f78fccb6b3d1", func := "loop.example/g01377/laws.FnExactWinsChomp", spec := "fnExactWinsChomp", inPlace := ["internal/abi.NoEscape", "internal/bytealg.MakeNoZero"], unfollowed := true, recurses := true, named := ["internal/strconv.uint64pow10", "math/bits.deBruijn32tab", "math/bits.deBruijn64tab"], apart := false, laid := [("math/bits.deBruijn32tab", laid_math_bits_deBruijn32tab), ("math/bits.deBruijn64tab", laid_math_bits_deBruijn64tab), ("internal/strconv.uint64pow10", laid_internal_strconv_uint64pow10)], narrowed := true }
def FnExactWinsChompUptoSaid : Prop := fnExactWinsChompUptoRow.holds Tryd.pinned (OpenSpec.upto fnExactWinsChompSpec)

/-- 'laws.FnExactFirstGoodChomp', WHERE WHAT IT READS IS OF BULK AT MOST 1048576: true; the input reads as it did. -/
def fnExactFirstGoodChompUptoRow : OpenClaim := { program := "ytnmibkkchgagbaadoor", sum := "bd6d4f0e4c26e7c2e15a5e8283795dfc23bcd469106654600339f78fccb6b3d1", func := "loop.example/g01377/laws.FnExactFirstGoodChomp", spec := "fnExactFirstGoodChomp", inPlace := ["internal/abi.NoEscape", "internal/bytealg.MakeNoZero"], unfollowed := true, recurses := true, named := ["internal/strconv.uint64pow10", "math/bits.deBruijn32tab", "math/bits.deBruijn64tab"], apart := false, laid := [("math/bits.deBruijn32tab", laid_math_bits_deBruijn32tab), ("math/bits.deBruijn64tab", laid_math_bits_deBruijn64tab), ("internal/strconv.uint64pow10", laid_internal_strconv_uint64pow10)], narrowed := true }
def FnExactFirstGoodChompUptoSaid : Prop := fnExactFirstGoodChompUptoRow.holds Tryd.pinned (OpenSpec.upto fnExactFirstGoodChompSpec)

/-- 'laws.FnExactQuickestWin', WHERE WHAT IT READS IS OF BULK AT MOST 1048576: true; the input reads as it did. -/
def fnExactQuickestWinUptoRow : OpenClaim := { program := "ytnmibkkchgagbaadoor", sum := "bd6d4f0e4c26e7c2e15a5e8283795dfc23bcd469106654600339f78fccb6b3d1", func := "loop.example/g01377/laws.FnExactQuickestWin", spec := "fnExactQuickestWin", inPlace := ["internal/abi.NoEscape", "internal/bytealg.MakeNoZero"], unfollowed := true, recurses := true, named := ["internal/strconv.uint64pow10", "math/bits.deBruijn32tab", "math/bits.deBruijn64tab"], apart := false, laid := [("math/bits.deBruijn32tab", laid_math_bits_deBruijn32tab), ("math/bits.deBruijn64tab", laid_math_bits_deBruijn64tab), ("internal/strconv.uint64pow10", laid_internal_strconv_uint64pow10)], narrowed := true }
def FnExactQuickestWinUptoSaid : Prop := fnExactQuickestWinUptoRow.holds Tryd.pinned (OpenSpec.upto fnExactQuickestWinSpec)

/-- 'laws.FnExactLostChomps', WHERE WHAT IT READS IS OF BULK AT MOST 1048576: true; the input reads as it did. -/
def fnExactLostChompsUptoRow : OpenClaim := { program := "ytnmibkkchgagbaadoor", sum := "bd6d4f0e4c26e7c2e15a5e8283795dfc23bcd469106654600339f78fccb6b3d1", func := "loop.example/g01377/laws.FnExactLostChomps", spec := "fnExactLostChomps", inPlace := ["internal/abi.NoEscape", "internal/bytealg.MakeNoZero"], unfollowed := true, recurses := true, named := ["internal/strconv.uint64pow10", "math/bits.deBruijn32tab", "math/bits.deBruijn64tab"], apart := false, laid := [("math/bits.deBruijn32tab", laid_math_bits_deBruijn32tab), ("math/bits.deBruijn64tab", laid_math_bits_deBruijn64tab), ("internal/strconv.uint64pow10", laid_internal_strconv_uint64pow10)], narrowed := true }
def FnExactLostChompsUptoSaid : Prop := fnExactLostChompsUptoRow.holds Tryd.pinned (OpenSpec.upto fnExactLostChompsSpec)

/-- 'laws.FnExactGoodChomps', WHERE WHAT IT READS IS OF BULK AT MOST 1048576: true; the input reads as it did. -/
def fnExactGoodChompsUptoRow : OpenClaim := { program := "ytnmibkkchgagbaadoor", sum := "bd6d4f0e4c26e7c2e15a5e8283795dfc23bcd469106654600339f78fccb6b3d1", func := "loop.example/g01377/laws.FnExactGoodChomps", spec := "fnExactGoodChomps", inPlace := ["internal/abi.NoEscape", "internal/bytealg.MakeNoZero"], unfollowed := true, recurses := true, named := ["internal/strconv.uint64pow10", "math/bits.deBruijn32tab", "math/bits.deBruijn64tab"], apart := false, laid := [("math/bits.deBruijn32tab", laid_math_bits_deBruijn32tab), ("math/bits.deBruijn64tab", laid_math_bits_deBruijn64tab), ("internal/strconv.uint64pow10", laid_internal_strconv_uint64pow10)], narrowed := true }
def FnExactGoodChompsUptoSaid : Prop := fnExactGoodChompsUptoRow.holds Tryd.pinned (OpenSpec.upto fnExactGoodChompsSpec)

end Rows
end Go.Proofs.YtnmibkkchgagbaaDoor
