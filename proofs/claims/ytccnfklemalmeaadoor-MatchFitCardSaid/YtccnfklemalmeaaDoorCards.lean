/-
  DERIVED. GIVEN WITH THE SEED: THE CARDS: each row of YtccnfklemalmeaaDoorRows.lean that lists a variable, with what it lists TIED to the program's text (the seventh form; the later family's looks); each row that meets fmt, with fmt's text TOLD by the authors' own Lean function (tested against real Go, not proved from fmt's source: count such statements apart). THE CARD IS WHAT COUNTS. Prove the row's statement (the work); the ties are given (YtccnfklemalmeaaDoorTie.lean); close each card by the builder's one call (the guide's Derived/Test/ToyasCard.lean, 'card_holds'). Laid BY PROGRAM, IN A SANDBOX (cutbox-door.mjs). By AI agents, Wed Nov 11 2026. No macro, syntax, notation, axiom, sorry.
-/
import Derived.Test.YtccnfklemalmeaaDoorRows
import GoSem.ClaimSeven
namespace Go.Proofs.YtccnfklemalmeaaDoor
namespace Rows

/-- THE TIED CARD OF 'custodylaw01.AmountSums'. -/
def amountSumsCard : Claim7 := { stood := { row := amountSumsRow, standIns := [], harness := (true, "946e5cd79866a4ba48facdeca71e28f2fe31ecb82bd5f775ff03998d64ce0d55"), looks := true }, kinds := [], alts := [], laidByText := true, laidKinds := [.handle], laidTests := true, laidLooks := .later }
def AmountSumsCardSaid : Prop := Claim7.holds Tryd.pinned (.plain (OpenSpec.ofChange amountSumsSpec)) amountSumsCard

/-- THE TIED CARD OF 'custodylaw01.AmountSum'. -/
def amountSumCard : Claim7 := { stood := { row := amountSumRow, standIns := [], harness := (true, "946e5cd79866a4ba48facdeca71e28f2fe31ecb82bd5f775ff03998d64ce0d55"), looks := true }, kinds := [], alts := [], laidByText := true, laidKinds := [.handle], laidTests := true, laidLooks := .later }
def AmountSumCardSaid : Prop := Claim7.holds Tryd.pinned (.plain (OpenSpec.ofChange amountSumSpec)) amountSumCard

/-- THE TIED CARD OF 'custodylaw22.MatchFit'. -/
def matchFitCard : Claim7 := { stood := { row := matchFitRow, standIns := [], harness := (true, "946e5cd79866a4ba48facdeca71e28f2fe31ecb82bd5f775ff03998d64ce0d55"), looks := true }, kinds := [], alts := [], laidByText := true, laidKinds := [.data, .data, .data], laidTests := true, laidLooks := .later }
def MatchFitCardSaid : Prop := Claim7.holds Tryd.pinned (.plain (OpenSpec.ofChange matchFitSpec)) matchFitCard

/-- THE TIED CARD OF 'custodylaw32.DeskWords'. -/
def deskWordsCard : Claim7 := { stood := { row := deskWordsRow, standIns := [], harness := (true, "946e5cd79866a4ba48facdeca71e28f2fe31ecb82bd5f775ff03998d64ce0d55"), looks := true }, kinds := [], alts := [], laidByText := true, laidKinds := [.handle], laidTests := true, laidLooks := .later }
def DeskWordsCardSaid : Prop := Claim7.holds Tryd.pinned (.plain (OpenSpec.ofChange deskWordsSpec)) deskWordsCard

/-- THE TIED CARD OF 'custodylaw01.AmountMulDiv'. -/
def amountMulDivCard : Claim7 := { stood := { row := amountMulDivRow, standIns := [], harness := (true, "946e5cd79866a4ba48facdeca71e28f2fe31ecb82bd5f775ff03998d64ce0d55"), looks := true }, kinds := [], alts := [], laidByText := true, laidKinds := [.handle], laidTests := true, laidLooks := .later }
def AmountMulDivCardSaid : Prop := Claim7.holds Tryd.pinned (.plain (OpenSpec.ofChange amountMulDivSpec)) amountMulDivCard

/-- THE TIED CARD OF 'custodylaw01.AmountRounds'. -/
def amountRoundsCard : Claim7 := { stood := { row := amountRoundsRow, standIns := [], harness := (true, "946e5cd79866a4ba48facdeca71e28f2fe31ecb82bd5f775ff03998d64ce0d55"), looks := true }, kinds := [], alts := [], laidByText := true, laidKinds := [.handle], laidTests := true, laidLooks := .later }
def AmountRoundsCardSaid : Prop := Claim7.holds Tryd.pinned (.plain (OpenSpec.ofChange amountRoundsSpec)) amountRoundsCard

/-- THE TIED CARD OF 'custodylaw01.AmountTexts'. -/
def amountTextsCard : Claim7 := { stood := { row := amountTextsRow, standIns := [], harness := (true, "946e5cd79866a4ba48facdeca71e28f2fe31ecb82bd5f775ff03998d64ce0d55"), looks := true }, kinds := [], alts := [], laidByText := true, laidKinds := [.data, .handle, .pinned], laidTests := true, laidLooks := .later }
def AmountTextsCardSaid : Prop := Claim7.holds Tryd.pinned (.plain (OpenSpec.ofChange amountTextsSpec)) amountTextsCard

/-- THE TIED CARD OF 'custodylaw01.AmountBack'. -/
def amountBackCard : Claim7 := { stood := { row := amountBackRow, standIns := [], harness := (true, "946e5cd79866a4ba48facdeca71e28f2fe31ecb82bd5f775ff03998d64ce0d55"), looks := true }, kinds := [], alts := [], laidByText := true, laidKinds := [.data, .handle, .pinned], laidTests := true, laidLooks := .later }
def AmountBackCardSaid : Prop := Claim7.holds Tryd.pinned (.plain (OpenSpec.ofChange amountBackSpec)) amountBackCard

/-- THE SECOND FORM's CARD OF 'custodylaw01.AmountSums'. -/
def amountSumsUptoCard : Claim7 := { stood := { row := amountSumsUptoRow, standIns := [], harness := (true, "946e5cd79866a4ba48facdeca71e28f2fe31ecb82bd5f775ff03998d64ce0d55"), looks := true }, kinds := [], alts := [], laidByText := true, laidKinds := [.handle], laidTests := true, laidLooks := .later }
def AmountSumsUptoCardSaid : Prop := Claim7.holds Tryd.pinned (.plain (OpenSpec.upto amountSumsSpec)) amountSumsUptoCard

/-- THE SECOND FORM's CARD OF 'custodylaw01.AmountSum'. -/
def amountSumUptoCard : Claim7 := { stood := { row := amountSumUptoRow, standIns := [], harness := (true, "946e5cd79866a4ba48facdeca71e28f2fe31ecb82bd5f775ff03998d64ce0d55"), looks := true }, kinds := [], alts := [], laidByText := true, laidKinds := [.handle], laidTests := true, laidLooks := .later }
def AmountSumUptoCardSaid : Prop := Claim7.holds Tryd.pinned (.plain (OpenSpec.upto amountSumSpec)) amountSumUptoCard

/-- THE SECOND FORM's CARD OF 'custodylaw22.MatchFit'. -/
def matchFitUptoCard : Claim7 := { stood := { row := matchFitUptoRow, standIns := [], harness := (true, "946e5cd79866a4ba48facdeca71e28f2fe31ecb82bd5f775ff03998d64ce0d55"), looks := true }, kinds := [], alts := [], laidByText := true, laidKinds := [.data, .data, .data], laidTests := true, laidLooks := .later }
def MatchFitUptoCardSaid : Prop := Claim7.holds Tryd.pinned (.plain (OpenSpec.upto matchFitSpec)) matchFitUptoCard

/-- THE SECOND FORM's CARD OF 'custodylaw32.DeskWords'. -/
def deskWordsUptoCard : Claim7 := { stood := { row := deskWordsUptoRow, standIns := [], harness := (true, "946e5cd79866a4ba48facdeca71e28f2fe31ecb82bd5f775ff03998d64ce0d55"), looks := true }, kinds := [], alts := [], laidByText := true, laidKinds := [.handle], laidTests := true, laidLooks := .later }
def DeskWordsUptoCardSaid : Prop := Claim7.holds Tryd.pinned (.plain (OpenSpec.upto deskWordsSpec)) deskWordsUptoCard

/-- THE SECOND FORM's CARD OF 'custodylaw01.AmountMulDiv'. -/
def amountMulDivUptoCard : Claim7 := { stood := { row := amountMulDivUptoRow, standIns := [], harness := (true, "946e5cd79866a4ba48facdeca71e28f2fe31ecb82bd5f775ff03998d64ce0d55"), looks := true }, kinds := [], alts := [], laidByText := true, laidKinds := [.handle], laidTests := true, laidLooks := .later }
def AmountMulDivUptoCardSaid : Prop := Claim7.holds Tryd.pinned (.plain (OpenSpec.upto amountMulDivSpec)) amountMulDivUptoCard

/-- THE SECOND FORM's CARD OF 'custodylaw01.AmountRounds'. -/
def amountRoundsUptoCard : Claim7 := { stood := { row := amountRoundsUptoRow, standIns := [], harness := (true, "946e5cd79866a4ba48facdeca71e28f2fe31ecb82bd5f775ff03998d64ce0d55"), looks := true }, kinds := [], alts := [], laidByText := true, laidKinds := [.handle], laidTests := true, laidLooks := .later }
def AmountRoundsUptoCardSaid : Prop := Claim7.holds Tryd.pinned (.plain (OpenSpec.upto amountRoundsSpec)) amountRoundsUptoCard

/-- THE SECOND FORM's CARD OF 'custodylaw01.AmountTexts'. -/
def amountTextsUptoCard : Claim7 := { stood := { row := amountTextsUptoRow, standIns := [], harness := (true, "946e5cd79866a4ba48facdeca71e28f2fe31ecb82bd5f775ff03998d64ce0d55"), looks := true }, kinds := [], alts := [], laidByText := true, laidKinds := [.data, .handle, .pinned], laidTests := true, laidLooks := .later }
def AmountTextsUptoCardSaid : Prop := Claim7.holds Tryd.pinned (.plain (OpenSpec.upto amountTextsSpec)) amountTextsUptoCard

/-- THE SECOND FORM's CARD OF 'custodylaw01.AmountBack'. -/
def amountBackUptoCard : Claim7 := { stood := { row := amountBackUptoRow, standIns := [], harness := (true, "946e5cd79866a4ba48facdeca71e28f2fe31ecb82bd5f775ff03998d64ce0d55"), looks := true }, kinds := [], alts := [], laidByText := true, laidKinds := [.data, .handle, .pinned], laidTests := true, laidLooks := .later }
def AmountBackUptoCardSaid : Prop := Claim7.holds Tryd.pinned (.plain (OpenSpec.upto amountBackSpec)) amountBackUptoCard
end Rows
end Go.Proofs.YtccnfklemalmeaaDoor
