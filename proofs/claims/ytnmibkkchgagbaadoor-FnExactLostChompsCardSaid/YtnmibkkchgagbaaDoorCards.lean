/-
  DERIVED. GIVEN WITH THE SEED: THE CARDS: each row of YtnmibkkchgagbaaDoorRows.lean that lists a variable, with what it lists TIED to the program's text (the seventh form; the later family's looks); each row that meets fmt, with fmt's text TOLD by the authors' own Lean function (tested against real Go, not proved from fmt's source: count such statements apart). THE CARD IS WHAT COUNTS. Prove the row's statement (the work); the ties are given (YtnmibkkchgagbaaDoorTie.lean); close each card by the builder's one call (the guide's Derived/Test/ToyasCard.lean, 'card_holds'). Laid BY PROGRAM, IN A SANDBOX (cutbox-door.mjs). By AI agents, Wed Nov 11 2026. No macro, syntax, notation, axiom, sorry.
-/
import Derived.Test.YtnmibkkchgagbaaDoorRows
import GoSem.ClaimSeven
namespace Go.Proofs.YtnmibkkchgagbaaDoor
namespace Rows

/-- THE TIED CARD OF 'laws.FnExactChompText'. -/
def fnExactChompTextCard : Claim7 := { stood := { row := fnExactChompTextRow, standIns := [], harness := (true, "6ae1e4260b9c5e8e91c783e3c88a9e527dbb07be918f96dbf89754d3f02affaa"), looks := false }, kinds := [], alts := [], laidByText := true, laidKinds := [.data, .data, .data], laidTests := true, laidLooks := .later }
def FnExactChompTextCardSaid : Prop := Claim7.holds Tryd.pinned (.plain (OpenSpec.ofChange fnExactChompTextSpec)) fnExactChompTextCard

/-- THE TIED CARD OF 'laws.FnExactCountLostChomps'. -/
def fnExactCountLostChompsCard : Claim7 := { stood := { row := fnExactCountLostChompsRow, standIns := [], harness := (true, "6ae1e4260b9c5e8e91c783e3c88a9e527dbb07be918f96dbf89754d3f02affaa"), looks := false }, kinds := [], alts := [], laidByText := true, laidKinds := [.data, .data, .data], laidTests := true, laidLooks := .later }
def FnExactCountLostChompsCardSaid : Prop := Claim7.holds Tryd.pinned (.plain (OpenSpec.ofChange fnExactCountLostChompsSpec)) fnExactCountLostChompsCard

/-- THE TIED CARD OF 'laws.FnExactHeapOfChomp'. -/
def fnExactHeapOfChompCard : Claim7 := { stood := { row := fnExactHeapOfChompRow, standIns := [], harness := (true, "6ae1e4260b9c5e8e91c783e3c88a9e527dbb07be918f96dbf89754d3f02affaa"), looks := false }, kinds := [], alts := [], laidByText := true, laidKinds := [.data, .data, .data], laidTests := true, laidLooks := .later }
def FnExactHeapOfChompCardSaid : Prop := Claim7.holds Tryd.pinned (.plain (OpenSpec.ofChange fnExactHeapOfChompSpec)) fnExactHeapOfChompCard

/-- THE TIED CARD OF 'laws.FnExactWinsChomp'. -/
def fnExactWinsChompCard : Claim7 := { stood := { row := fnExactWinsChompRow, standIns := [], harness := (true, "6ae1e4260b9c5e8e91c783e3c88a9e527dbb07be918f96dbf89754d3f02affaa"), looks := false }, kinds := [], alts := [], laidByText := true, laidKinds := [.data, .data, .data], laidTests := true, laidLooks := .later }
def FnExactWinsChompCardSaid : Prop := Claim7.holds Tryd.pinned (.plain (OpenSpec.ofChange fnExactWinsChompSpec)) fnExactWinsChompCard

/-- THE TIED CARD OF 'laws.FnExactFirstGoodChomp'. -/
def fnExactFirstGoodChompCard : Claim7 := { stood := { row := fnExactFirstGoodChompRow, standIns := [], harness := (true, "6ae1e4260b9c5e8e91c783e3c88a9e527dbb07be918f96dbf89754d3f02affaa"), looks := false }, kinds := [], alts := [], laidByText := true, laidKinds := [.data, .data, .data], laidTests := true, laidLooks := .later }
def FnExactFirstGoodChompCardSaid : Prop := Claim7.holds Tryd.pinned (.plain (OpenSpec.ofChange fnExactFirstGoodChompSpec)) fnExactFirstGoodChompCard

/-- THE TIED CARD OF 'laws.FnExactQuickestWin'. -/
def fnExactQuickestWinCard : Claim7 := { stood := { row := fnExactQuickestWinRow, standIns := [], harness := (true, "6ae1e4260b9c5e8e91c783e3c88a9e527dbb07be918f96dbf89754d3f02affaa"), looks := false }, kinds := [], alts := [], laidByText := true, laidKinds := [.data, .data, .data], laidTests := true, laidLooks := .later }
def FnExactQuickestWinCardSaid : Prop := Claim7.holds Tryd.pinned (.plain (OpenSpec.ofChange fnExactQuickestWinSpec)) fnExactQuickestWinCard

/-- THE TIED CARD OF 'laws.FnExactLostChomps'. -/
def fnExactLostChompsCard : Claim7 := { stood := { row := fnExactLostChompsRow, standIns := [], harness := (true, "6ae1e4260b9c5e8e91c783e3c88a9e527dbb07be918f96dbf89754d3f02affaa"), looks := false }, kinds := [], alts := [], laidByText := true, laidKinds := [.data, .data, .data], laidTests := true, laidLooks := .later }
def FnExactLostChompsCardSaid : Prop := Claim7.holds Tryd.pinned (.plain (OpenSpec.ofChange fnExactLostChompsSpec)) fnExactLostChompsCard

/-- THE TIED CARD OF 'laws.FnExactGoodChomps'. -/
def fnExactGoodChompsCard : Claim7 := { stood := { row := fnExactGoodChompsRow, standIns := [], harness := (true, "6ae1e4260b9c5e8e91c783e3c88a9e527dbb07be918f96dbf89754d3f02affaa"), looks := false }, kinds := [], alts := [], laidByText := true, laidKinds := [.data, .data, .data], laidTests := true, laidLooks := .later }
def FnExactGoodChompsCardSaid : Prop := Claim7.holds Tryd.pinned (.plain (OpenSpec.ofChange fnExactGoodChompsSpec)) fnExactGoodChompsCard

/-- THE SECOND FORM's CARD OF 'laws.FnExactChompText'. -/
def fnExactChompTextUptoCard : Claim7 := { stood := { row := fnExactChompTextUptoRow, standIns := [], harness := (true, "6ae1e4260b9c5e8e91c783e3c88a9e527dbb07be918f96dbf89754d3f02affaa"), looks := false }, kinds := [], alts := [], laidByText := true, laidKinds := [.data, .data, .data], laidTests := true, laidLooks := .later }
def FnExactChompTextUptoCardSaid : Prop := Claim7.holds Tryd.pinned (.plain (OpenSpec.upto fnExactChompTextSpec)) fnExactChompTextUptoCard

/-- THE SECOND FORM's CARD OF 'laws.FnExactCountLostChomps'. -/
def fnExactCountLostChompsUptoCard : Claim7 := { stood := { row := fnExactCountLostChompsUptoRow, standIns := [], harness := (true, "6ae1e4260b9c5e8e91c783e3c88a9e527dbb07be918f96dbf89754d3f02affaa"), looks := false }, kinds := [], alts := [], laidByText := true, laidKinds := [.data, .data, .data], laidTests := true, laidLooks := .later }
def FnExactCountLostChompsUptoCardSaid : Prop := Claim7.holds Tryd.pinned (.plain (OpenSpec.upto fnExactCountLostChompsSpec)) fnExactCountLostChompsUptoCard

/-- THE SECOND FORM's CARD OF 'laws.FnExactHeapOfChomp'. -/
def fnExactHeapOfChompUptoCard : Claim7 := { stood := { row := fnExactHeapOfChompUptoRow, standIns := [], harness := (true, "6ae1e4260b9c5e8e91c783e3c88a9e527dbb07be918f96dbf89754d3f02affaa"), looks := false }, kinds := [], alts := [], laidByText := true, laidKinds := [.data, .data, .data], laidTests := true, laidLooks := .later }
def FnExactHeapOfChompUptoCardSaid : Prop := Claim7.holds Tryd.pinned (.plain (OpenSpec.upto fnExactHeapOfChompSpec)) fnExactHeapOfChompUptoCard

/-- THE SECOND FORM's CARD OF 'laws.FnExactWinsChomp'. -/
def fnExactWinsChompUptoCard : Claim7 := { stood := { row := fnExactWinsChompUptoRow, standIns := [], harness := (true, "6ae1e4260b9c5e8e91c783e3c88a9e527dbb07be918f96dbf89754d3f02affaa"), looks := false }, kinds := [], alts := [], laidByText := true, laidKinds := [.data, .data, .data], laidTests := true, laidLooks := .later }
def FnExactWinsChompUptoCardSaid : Prop := Claim7.holds Tryd.pinned (.plain (OpenSpec.upto fnExactWinsChompSpec)) fnExactWinsChompUptoCard

/-- THE SECOND FORM's CARD OF 'laws.FnExactFirstGoodChomp'. -/
def fnExactFirstGoodChompUptoCard : Claim7 := { stood := { row := fnExactFirstGoodChompUptoRow, standIns := [], harness := (true, "6ae1e4260b9c5e8e91c783e3c88a9e527dbb07be918f96dbf89754d3f02affaa"), looks := false }, kinds := [], alts := [], laidByText := true, laidKinds := [.data, .data, .data], laidTests := true, laidLooks := .later }
def FnExactFirstGoodChompUptoCardSaid : Prop := Claim7.holds Tryd.pinned (.plain (OpenSpec.upto fnExactFirstGoodChompSpec)) fnExactFirstGoodChompUptoCard

/-- THE SECOND FORM's CARD OF 'laws.FnExactQuickestWin'. -/
def fnExactQuickestWinUptoCard : Claim7 := { stood := { row := fnExactQuickestWinUptoRow, standIns := [], harness := (true, "6ae1e4260b9c5e8e91c783e3c88a9e527dbb07be918f96dbf89754d3f02affaa"), looks := false }, kinds := [], alts := [], laidByText := true, laidKinds := [.data, .data, .data], laidTests := true, laidLooks := .later }
def FnExactQuickestWinUptoCardSaid : Prop := Claim7.holds Tryd.pinned (.plain (OpenSpec.upto fnExactQuickestWinSpec)) fnExactQuickestWinUptoCard

/-- THE SECOND FORM's CARD OF 'laws.FnExactLostChomps'. -/
def fnExactLostChompsUptoCard : Claim7 := { stood := { row := fnExactLostChompsUptoRow, standIns := [], harness := (true, "6ae1e4260b9c5e8e91c783e3c88a9e527dbb07be918f96dbf89754d3f02affaa"), looks := false }, kinds := [], alts := [], laidByText := true, laidKinds := [.data, .data, .data], laidTests := true, laidLooks := .later }
def FnExactLostChompsUptoCardSaid : Prop := Claim7.holds Tryd.pinned (.plain (OpenSpec.upto fnExactLostChompsSpec)) fnExactLostChompsUptoCard

/-- THE SECOND FORM's CARD OF 'laws.FnExactGoodChomps'. -/
def fnExactGoodChompsUptoCard : Claim7 := { stood := { row := fnExactGoodChompsUptoRow, standIns := [], harness := (true, "6ae1e4260b9c5e8e91c783e3c88a9e527dbb07be918f96dbf89754d3f02affaa"), looks := false }, kinds := [], alts := [], laidByText := true, laidKinds := [.data, .data, .data], laidTests := true, laidLooks := .later }
def FnExactGoodChompsUptoCardSaid : Prop := Claim7.holds Tryd.pinned (.plain (OpenSpec.upto fnExactGoodChompsSpec)) fnExactGoodChompsUptoCard
end Rows
end Go.Proofs.YtnmibkkchgagbaaDoor
