/-
  DERIVED. GIVEN WITH THE SEED: THE CARDS: each row of YtphabkaiheplpaaGreatDoorRows.lean that lists a variable, with what it lists TIED to the program's text (the seventh form; the later family's looks); each row that meets fmt, with fmt's text TOLD by the authors' own Lean function (tested against real Go, not proved from fmt's source: count such statements apart). THE CARD IS WHAT COUNTS. Prove the row's statement (the work); the ties are given (YtphabkaiheplpaaGreatDoorTie.lean); close each card by the builder's one call (the guide's Derived/Test/ToyasCard.lean, 'card_holds'). Laid BY PROGRAM, IN A SANDBOX (cutbox-door.mjs). By AI agents, Wed Nov 11 2026. No macro, syntax, notation, axiom, sorry.
-/
import Derived.Test.YtphabkaiheplpaaGreatDoorRows
import GoSem.ClaimSeven
namespace Go.Proofs.YtphabkaiheplpaaGreatDoor
namespace Rows

/-- THE TIED CARD OF 'custodylaw22.MatchTurns'. -/
def matchTurnsCard : Claim7 := { stood := { row := matchTurnsRow, standIns := [], harness := (true, "c77b1f9162b86abcb88700b179b66a332f546d26062c69097e147de7113c61f8"), looks := true }, kinds := [], alts := [], laidByText := true, laidKinds := [.data, .data, .data, .data, .pinned], laidTests := true, laidLooks := .later }
def MatchTurnsCardSaid : Prop := Claim7.holds Tryz.pinned (.plain (OpenSpec.ofChange matchTurnsSpec)) matchTurnsCard

/-- THE TIED CARD OF 'custodylaw22.MatchRests'. -/
def matchRestsCard : Claim7 := { stood := { row := matchRestsRow, standIns := [], harness := (true, "c77b1f9162b86abcb88700b179b66a332f546d26062c69097e147de7113c61f8"), looks := true }, kinds := [], alts := [], laidByText := true, laidKinds := [.data, .data, .data, .data, .pinned], laidTests := true, laidLooks := .later }
def MatchRestsCardSaid : Prop := Claim7.holds Tryz.pinned (.plain (OpenSpec.ofChange matchRestsSpec)) matchRestsCard

/-- THE TIED CARD OF 'custodylaw22.MatchScript'. -/
def matchScriptCard : Claim7 := { stood := { row := matchScriptRow, standIns := [], harness := (true, "c77b1f9162b86abcb88700b179b66a332f546d26062c69097e147de7113c61f8"), looks := true }, kinds := [], alts := [], laidByText := true, laidKinds := [.data, .data, .data, .data, .handle, .pinned], laidTests := true, laidLooks := .later }
def MatchScriptCardSaid : Prop := Claim7.holds Tryz.pinned (.plain (OpenSpec.ofChange matchScriptSpec)) matchScriptCard

/-- THE TIED CARD OF 'custodylaw22.MatchKnown'. -/
def matchKnownCard : Claim7 := { stood := { row := matchKnownRow, standIns := [], harness := (true, "c77b1f9162b86abcb88700b179b66a332f546d26062c69097e147de7113c61f8"), looks := true }, kinds := [], alts := [], laidByText := true, laidKinds := [.data, .data, .data, .data, .handle, .pinned], laidTests := true, laidLooks := .later }
def MatchKnownCardSaid : Prop := Claim7.holds Tryz.pinned (.plain (OpenSpec.ofChange matchKnownSpec)) matchKnownCard

/-- THE SECOND FORM's CARD OF 'custodylaw22.MatchTurns'. -/
def matchTurnsUptoCard : Claim7 := { stood := { row := matchTurnsUptoRow, standIns := [], harness := (true, "c77b1f9162b86abcb88700b179b66a332f546d26062c69097e147de7113c61f8"), looks := true }, kinds := [], alts := [], laidByText := true, laidKinds := [.data, .data, .data, .data, .pinned], laidTests := true, laidLooks := .later }
def MatchTurnsUptoCardSaid : Prop := Claim7.holds Tryz.pinned (.plain (OpenSpec.upto matchTurnsSpec)) matchTurnsUptoCard

/-- THE SECOND FORM's CARD OF 'custodylaw22.MatchRests'. -/
def matchRestsUptoCard : Claim7 := { stood := { row := matchRestsUptoRow, standIns := [], harness := (true, "c77b1f9162b86abcb88700b179b66a332f546d26062c69097e147de7113c61f8"), looks := true }, kinds := [], alts := [], laidByText := true, laidKinds := [.data, .data, .data, .data, .pinned], laidTests := true, laidLooks := .later }
def MatchRestsUptoCardSaid : Prop := Claim7.holds Tryz.pinned (.plain (OpenSpec.upto matchRestsSpec)) matchRestsUptoCard

/-- THE SECOND FORM's CARD OF 'custodylaw22.MatchScript'. -/
def matchScriptUptoCard : Claim7 := { stood := { row := matchScriptUptoRow, standIns := [], harness := (true, "c77b1f9162b86abcb88700b179b66a332f546d26062c69097e147de7113c61f8"), looks := true }, kinds := [], alts := [], laidByText := true, laidKinds := [.data, .data, .data, .data, .handle, .pinned], laidTests := true, laidLooks := .later }
def MatchScriptUptoCardSaid : Prop := Claim7.holds Tryz.pinned (.plain (OpenSpec.upto matchScriptSpec)) matchScriptUptoCard

/-- THE SECOND FORM's CARD OF 'custodylaw22.MatchKnown'. -/
def matchKnownUptoCard : Claim7 := { stood := { row := matchKnownUptoRow, standIns := [], harness := (true, "c77b1f9162b86abcb88700b179b66a332f546d26062c69097e147de7113c61f8"), looks := true }, kinds := [], alts := [], laidByText := true, laidKinds := [.data, .data, .data, .data, .handle, .pinned], laidTests := true, laidLooks := .later }
def MatchKnownUptoCardSaid : Prop := Claim7.holds Tryz.pinned (.plain (OpenSpec.upto matchKnownSpec)) matchKnownUptoCard
end Rows
end Go.Proofs.YtphabkaiheplpaaGreatDoor
