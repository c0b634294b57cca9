/-
  DERIVED. GIVEN WITH THE SEED: THE CARDS: each row of YtoehjfcadhgpbaaDoorRows.lean that lists a variable, with what it lists TIED to the program's text (the seventh form; the later family's looks); each row that meets fmt, with fmt's text TOLD by the authors' own Lean function (tested against real Go, not proved from fmt's source: count such statements apart). THE CARD IS WHAT COUNTS. Prove the row's statement (the work); the ties are given (YtoehjfcadhgpbaaDoorTie.lean); close each card by the builder's one call (the guide's Derived/Test/ToyasCard.lean, 'card_holds'). Laid BY PROGRAM, IN A SANDBOX (cutbox-door.mjs). By AI agents, Wed Nov 11 2026. No macro, syntax, notation, axiom, sorry.
-/
import Derived.Test.YtoehjfcadhgpbaaDoorRows
import GoSem.ClaimSeven
namespace Go.Proofs.YtoehjfcadhgpbaaDoor
namespace Rows

/-- THE TIED CARD OF 'laws.FnExactParsePattern'. -/
def fnExactParsePatternCard : Claim7 := { stood := { row := fnExactParsePatternRow, standIns := [], harness := (true, "2f6ac87a5c0f4c4aadf3efdd5aac87b55a9c0793223bb03498a1cff4615abe95"), looks := false }, kinds := [], alts := [], laidByText := true, laidKinds := [.data, .pinned], laidTests := true, laidLooks := .later }
def FnExactParsePatternCardSaid : Prop := Claim7.holds Tryd.pinned (.plain (OpenSpec.ofChange fnExactParsePatternSpec)) fnExactParsePatternCard

/-- THE TIED CARD OF 'laws.FnExactParseName'. -/
def fnExactParseNameCard : Claim7 := { stood := { row := fnExactParseNameRow, standIns := [], harness := (true, "2f6ac87a5c0f4c4aadf3efdd5aac87b55a9c0793223bb03498a1cff4615abe95"), looks := false }, kinds := [], alts := [], laidByText := true, laidKinds := [.data, .pinned], laidTests := true, laidLooks := .later }
def FnExactParseNameCardSaid : Prop := Claim7.holds Tryd.pinned (.plain (OpenSpec.ofChange fnExactParseNameSpec)) fnExactParseNameCard

/-- THE TIED CARD OF 'laws.FnPats'. -/
def fnPatsCard : Claim7 := { stood := { row := fnPatsRow, standIns := [], harness := (true, "2f6ac87a5c0f4c4aadf3efdd5aac87b55a9c0793223bb03498a1cff4615abe95"), looks := false }, kinds := [], alts := [], laidByText := true, laidKinds := [.data, .pinned], laidTests := true, laidLooks := .later }
def FnPatsCardSaid : Prop := Claim7.holds Tryd.pinned (.plain (OpenSpec.ofChange fnPatsSpec)) fnPatsCard

/-- THE TIED CARD OF 'laws.FnNames'. -/
def fnNamesCard : Claim7 := { stood := { row := fnNamesRow, standIns := [], harness := (true, "2f6ac87a5c0f4c4aadf3efdd5aac87b55a9c0793223bb03498a1cff4615abe95"), looks := false }, kinds := [], alts := [], laidByText := true, laidKinds := [.data, .pinned], laidTests := true, laidLooks := .later }
def FnNamesCardSaid : Prop := Claim7.holds Tryd.pinned (.plain (OpenSpec.ofChange fnNamesSpec)) fnNamesCard

/-- THE SECOND FORM's CARD OF 'laws.FnExactParsePattern'. -/
def fnExactParsePatternUptoCard : Claim7 := { stood := { row := fnExactParsePatternUptoRow, standIns := [], harness := (true, "2f6ac87a5c0f4c4aadf3efdd5aac87b55a9c0793223bb03498a1cff4615abe95"), looks := false }, kinds := [], alts := [], laidByText := true, laidKinds := [.data, .pinned], laidTests := true, laidLooks := .later }
def FnExactParsePatternUptoCardSaid : Prop := Claim7.holds Tryd.pinned (.plain (OpenSpec.upto fnExactParsePatternSpec)) fnExactParsePatternUptoCard

/-- THE SECOND FORM's CARD OF 'laws.FnExactParseName'. -/
def fnExactParseNameUptoCard : Claim7 := { stood := { row := fnExactParseNameUptoRow, standIns := [], harness := (true, "2f6ac87a5c0f4c4aadf3efdd5aac87b55a9c0793223bb03498a1cff4615abe95"), looks := false }, kinds := [], alts := [], laidByText := true, laidKinds := [.data, .pinned], laidTests := true, laidLooks := .later }
def FnExactParseNameUptoCardSaid : Prop := Claim7.holds Tryd.pinned (.plain (OpenSpec.upto fnExactParseNameSpec)) fnExactParseNameUptoCard

/-- THE SECOND FORM's CARD OF 'laws.FnPats'. -/
def fnPatsUptoCard : Claim7 := { stood := { row := fnPatsUptoRow, standIns := [], harness := (true, "2f6ac87a5c0f4c4aadf3efdd5aac87b55a9c0793223bb03498a1cff4615abe95"), looks := false }, kinds := [], alts := [], laidByText := true, laidKinds := [.data, .pinned], laidTests := true, laidLooks := .later }
def FnPatsUptoCardSaid : Prop := Claim7.holds Tryd.pinned (.plain (OpenSpec.upto fnPatsSpec)) fnPatsUptoCard

/-- THE SECOND FORM's CARD OF 'laws.FnNames'. -/
def fnNamesUptoCard : Claim7 := { stood := { row := fnNamesUptoRow, standIns := [], harness := (true, "2f6ac87a5c0f4c4aadf3efdd5aac87b55a9c0793223bb03498a1cff4615abe95"), looks := false }, kinds := [], alts := [], laidByText := true, laidKinds := [.data, .pinned], laidTests := true, laidLooks := .later }
def FnNamesUptoCardSaid : Prop := Claim7.holds Tryd.pinned (.plain (OpenSpec.upto fnNamesSpec)) fnNamesUptoCard
end Rows
end Go.Proofs.YtoehjfcadhgpbaaDoor
