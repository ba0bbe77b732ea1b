/-
  DERIVED. GIVEN WITH THE SEED: THE CARDS: each row of YtanagjgdklikbaaDoorRows.lean that lists a variable, with what it lists TIED to the program's text (the seventh form; the later family's looks); each row that meets fmt, with fmt's text TOLD by the authors' own Lean function (tested against real Go, not proved from fmt's source: count such statements apart). THE CARD IS WHAT COUNTS. Prove the row's statement (the work); the ties are given (YtanagjgdklikbaaDoorTie.lean); close each card by the builder's one call (the guide's Derived/Test/ToyasCard.lean, 'card_holds'). Laid BY PROGRAM, IN A SANDBOX (cutbox-door.mjs). By AI agents, Wed Nov 11 2026. No macro, syntax, notation, axiom, sorry.
-/
import Derived.Test.YtanagjgdklikbaaDoorRows
import GoSem.ClaimSeven
namespace Go.Proofs.YtanagjgdklikbaaDoor
namespace Rows

/-- THE TIED CARD OF 'laws.FnExactBarText'. -/
def fnExactBarTextCard : Claim7 := { stood := { row := fnExactBarTextRow, standIns := [], harness := (true, "8679007147006e0f0c86ce7a0f199ad4747b4d1b498e9b16abba70434ebac873"), looks := true }, kinds := [], alts := [], laidByText := true, laidKinds := [.data, .data, .data], laidTests := true, laidLooks := .later }
def FnExactBarTextCardSaid : Prop := Claim7.holds Tryd.pinned (.plain (OpenSpec.ofChange fnExactBarTextSpec)) fnExactBarTextCard

/-- THE TIED CARD OF 'laws.FnExactBoxText'. -/
def fnExactBoxTextCard : Claim7 := { stood := { row := fnExactBoxTextRow, standIns := [], harness := (true, "8679007147006e0f0c86ce7a0f199ad4747b4d1b498e9b16abba70434ebac873"), looks := true }, kinds := [], alts := [], laidByText := true, laidKinds := [.data, .data, .data], laidTests := true, laidLooks := .later }
def FnExactBoxTextCardSaid : Prop := Claim7.holds Tryd.pinned (.plain (OpenSpec.ofChange fnExactBoxTextSpec)) fnExactBoxTextCard

/-- THE TIED CARD OF 'laws.FnExactParseBar'. -/
def fnExactParseBarCard : Claim7 := { stood := { row := fnExactParseBarRow, standIns := [], harness := (true, "8679007147006e0f0c86ce7a0f199ad4747b4d1b498e9b16abba70434ebac873"), looks := true }, kinds := [], alts := [], laidByText := true, laidKinds := [.data, .data, .data, .sentinel, .sentinel], laidTests := true, laidLooks := .later }
def FnExactParseBarCardSaid : Prop := Claim7.holds Tryd.pinned (.plain (OpenSpec.ofChange fnExactParseBarSpec)) fnExactParseBarCard

/-- THE TIED CARD OF 'laws.FnExactParseBox'. -/
def fnExactParseBoxCard : Claim7 := { stood := { row := fnExactParseBoxRow, standIns := [], harness := (true, "8679007147006e0f0c86ce7a0f199ad4747b4d1b498e9b16abba70434ebac873"), looks := true }, kinds := [], alts := [], laidByText := true, laidKinds := [.data, .data, .data, .sentinel, .sentinel], laidTests := true, laidLooks := .later }
def FnExactParseBoxCardSaid : Prop := Claim7.holds Tryd.pinned (.plain (OpenSpec.ofChange fnExactParseBoxSpec)) fnExactParseBoxCard

/-- THE SECOND FORM's CARD OF 'laws.FnExactBarText'. -/
def fnExactBarTextUptoCard : Claim7 := { stood := { row := fnExactBarTextUptoRow, standIns := [], harness := (true, "8679007147006e0f0c86ce7a0f199ad4747b4d1b498e9b16abba70434ebac873"), looks := true }, kinds := [], alts := [], laidByText := true, laidKinds := [.data, .data, .data], laidTests := true, laidLooks := .later }
def FnExactBarTextUptoCardSaid : Prop := Claim7.holds Tryd.pinned (.plain (OpenSpec.upto fnExactBarTextSpec)) fnExactBarTextUptoCard

/-- THE SECOND FORM's CARD OF 'laws.FnExactBoxText'. -/
def fnExactBoxTextUptoCard : Claim7 := { stood := { row := fnExactBoxTextUptoRow, standIns := [], harness := (true, "8679007147006e0f0c86ce7a0f199ad4747b4d1b498e9b16abba70434ebac873"), looks := true }, kinds := [], alts := [], laidByText := true, laidKinds := [.data, .data, .data], laidTests := true, laidLooks := .later }
def FnExactBoxTextUptoCardSaid : Prop := Claim7.holds Tryd.pinned (.plain (OpenSpec.upto fnExactBoxTextSpec)) fnExactBoxTextUptoCard

/-- THE SECOND FORM's CARD OF 'laws.FnExactParseBar'. -/
def fnExactParseBarUptoCard : Claim7 := { stood := { row := fnExactParseBarUptoRow, standIns := [], harness := (true, "8679007147006e0f0c86ce7a0f199ad4747b4d1b498e9b16abba70434ebac873"), looks := true }, kinds := [], alts := [], laidByText := true, laidKinds := [.data, .data, .data, .sentinel, .sentinel], laidTests := true, laidLooks := .later }
def FnExactParseBarUptoCardSaid : Prop := Claim7.holds Tryd.pinned (.plain (OpenSpec.upto fnExactParseBarSpec)) fnExactParseBarUptoCard

/-- THE SECOND FORM's CARD OF 'laws.FnExactParseBox'. -/
def fnExactParseBoxUptoCard : Claim7 := { stood := { row := fnExactParseBoxUptoRow, standIns := [], harness := (true, "8679007147006e0f0c86ce7a0f199ad4747b4d1b498e9b16abba70434ebac873"), looks := true }, kinds := [], alts := [], laidByText := true, laidKinds := [.data, .data, .data, .sentinel, .sentinel], laidTests := true, laidLooks := .later }
def FnExactParseBoxUptoCardSaid : Prop := Claim7.holds Tryd.pinned (.plain (OpenSpec.upto fnExactParseBoxSpec)) fnExactParseBoxUptoCard
end Rows
end Go.Proofs.YtanagjgdklikbaaDoor
