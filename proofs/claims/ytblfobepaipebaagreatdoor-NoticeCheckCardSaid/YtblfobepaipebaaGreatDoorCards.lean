/-
  DERIVED. GIVEN WITH THE SEED: THE CARDS: each row of YtblfobepaipebaaGreatDoorRows.lean that lists a variable, with what it lists TIED to the program's text (the seventh form; the later family's looks); each row that meets fmt, with fmt's text TOLD by the authors' own Lean function (tested against real Go, not proved from fmt's source: count such statements apart). THE CARD IS WHAT COUNTS. Prove the row's statement (the work); the ties are given (YtblfobepaipebaaGreatDoorTie.lean); close each card by the builder's one call (the guide's Derived/Test/ToyasCard.lean, 'card_holds'). Laid BY PROGRAM, IN A SANDBOX (cutbox-door.mjs). By AI agents, Wed Nov 11 2026. No macro, syntax, notation, axiom, sorry.
-/
import Derived.Test.YtblfobepaipebaaGreatDoorRows
import GoSem.ClaimSeven
namespace Go.Proofs.YtblfobepaipebaaGreatDoor
namespace Rows

/-- THE TIED CARD OF 'custodylaw07.NoticeCheck'. -/
def noticeCheckCard : Claim7 := { stood := { row := noticeCheckRow, standIns := [], harness := (true, "46bbc02a403967d1f7fef086eba0620a4641f777977464b56483dae2cc2ade83"), looks := true }, kinds := [], alts := [], laidByText := true, laidKinds := [.data, .data, .data, .data, .handle, .pinned], laidTests := true, laidLooks := .later }
def NoticeCheckCardSaid : Prop := Claim7.holds Tryz.pinned (.plain (OpenSpec.ofChange noticeCheckSpec)) noticeCheckCard

/-- THE TIED CARD OF 'custodylaw07.NoticeWrite'. -/
def noticeWriteCard : Claim7 := { stood := { row := noticeWriteRow, standIns := [], harness := (true, "46bbc02a403967d1f7fef086eba0620a4641f777977464b56483dae2cc2ade83"), looks := true }, kinds := [], alts := [], laidByText := true, laidKinds := [.data, .data, .data, .data, .handle, .pinned], laidTests := true, laidLooks := .later }
def NoticeWriteCardSaid : Prop := Claim7.holds Tryz.pinned (.plain (OpenSpec.ofChange noticeWriteSpec)) noticeWriteCard

/-- THE TIED CARD OF 'custodylaw07.NoticeForm'. -/
def noticeFormCard : Claim7 := { stood := { row := noticeFormRow, standIns := [], harness := (true, "46bbc02a403967d1f7fef086eba0620a4641f777977464b56483dae2cc2ade83"), looks := true }, kinds := [], alts := [], laidByText := true, laidKinds := [.data, .data, .data, .data, .pinned], laidTests := true, laidLooks := .later }
def NoticeFormCardSaid : Prop := Claim7.holds Tryz.pinned (.plain (OpenSpec.ofChange noticeFormSpec)) noticeFormCard

/-- THE TIED CARD OF 'custodylaw07.NoticeBack'. -/
def noticeBackCard : Claim7 := { stood := { row := noticeBackRow, standIns := [], harness := (true, "46bbc02a403967d1f7fef086eba0620a4641f777977464b56483dae2cc2ade83"), looks := true }, kinds := [], alts := [], laidByText := true, laidKinds := [.data, .data, .data, .data, .pinned], laidTests := true, laidLooks := .later }
def NoticeBackCardSaid : Prop := Claim7.holds Tryz.pinned (.plain (OpenSpec.ofChange noticeBackSpec)) noticeBackCard

/-- THE TIED CARD OF 'custodylaw07.NoticeTurned'. -/
def noticeTurnedCard : Claim7 := { stood := { row := noticeTurnedRow, standIns := [], harness := (true, "46bbc02a403967d1f7fef086eba0620a4641f777977464b56483dae2cc2ade83"), looks := true }, kinds := [], alts := [], laidByText := true, laidKinds := [.data, .data, .data, .data, .pinned], laidTests := true, laidLooks := .later }
def NoticeTurnedCardSaid : Prop := Claim7.holds Tryz.pinned (.plain (OpenSpec.ofChange noticeTurnedSpec)) noticeTurnedCard

/-- THE TIED CARD OF 'custodylaw07.NoticeTexts'. -/
def noticeTextsCard : Claim7 := { stood := { row := noticeTextsRow, standIns := [], harness := (true, "46bbc02a403967d1f7fef086eba0620a4641f777977464b56483dae2cc2ade83"), looks := true }, kinds := [], alts := [], laidByText := true, laidKinds := [.data, .data, .data, .data, .handle, .pinned], laidTests := true, laidLooks := .later }
def NoticeTextsCardSaid : Prop := Claim7.holds Tryz.pinned (.plain (OpenSpec.ofChange noticeTextsSpec)) noticeTextsCard

/-- THE SECOND FORM's CARD OF 'custodylaw07.NoticeCheck'. -/
def noticeCheckUptoCard : Claim7 := { stood := { row := noticeCheckUptoRow, standIns := [], harness := (true, "46bbc02a403967d1f7fef086eba0620a4641f777977464b56483dae2cc2ade83"), looks := true }, kinds := [], alts := [], laidByText := true, laidKinds := [.data, .data, .data, .data, .handle, .pinned], laidTests := true, laidLooks := .later }
def NoticeCheckUptoCardSaid : Prop := Claim7.holds Tryz.pinned (.plain (OpenSpec.upto noticeCheckSpec)) noticeCheckUptoCard

/-- THE SECOND FORM's CARD OF 'custodylaw07.NoticeWrite'. -/
def noticeWriteUptoCard : Claim7 := { stood := { row := noticeWriteUptoRow, standIns := [], harness := (true, "46bbc02a403967d1f7fef086eba0620a4641f777977464b56483dae2cc2ade83"), looks := true }, kinds := [], alts := [], laidByText := true, laidKinds := [.data, .data, .data, .data, .handle, .pinned], laidTests := true, laidLooks := .later }
def NoticeWriteUptoCardSaid : Prop := Claim7.holds Tryz.pinned (.plain (OpenSpec.upto noticeWriteSpec)) noticeWriteUptoCard

/-- THE SECOND FORM's CARD OF 'custodylaw07.NoticeForm'. -/
def noticeFormUptoCard : Claim7 := { stood := { row := noticeFormUptoRow, standIns := [], harness := (true, "46bbc02a403967d1f7fef086eba0620a4641f777977464b56483dae2cc2ade83"), looks := true }, kinds := [], alts := [], laidByText := true, laidKinds := [.data, .data, .data, .data, .pinned], laidTests := true, laidLooks := .later }
def NoticeFormUptoCardSaid : Prop := Claim7.holds Tryz.pinned (.plain (OpenSpec.upto noticeFormSpec)) noticeFormUptoCard

/-- THE SECOND FORM's CARD OF 'custodylaw07.NoticeBack'. -/
def noticeBackUptoCard : Claim7 := { stood := { row := noticeBackUptoRow, standIns := [], harness := (true, "46bbc02a403967d1f7fef086eba0620a4641f777977464b56483dae2cc2ade83"), looks := true }, kinds := [], alts := [], laidByText := true, laidKinds := [.data, .data, .data, .data, .pinned], laidTests := true, laidLooks := .later }
def NoticeBackUptoCardSaid : Prop := Claim7.holds Tryz.pinned (.plain (OpenSpec.upto noticeBackSpec)) noticeBackUptoCard

/-- THE SECOND FORM's CARD OF 'custodylaw07.NoticeTurned'. -/
def noticeTurnedUptoCard : Claim7 := { stood := { row := noticeTurnedUptoRow, standIns := [], harness := (true, "46bbc02a403967d1f7fef086eba0620a4641f777977464b56483dae2cc2ade83"), looks := true }, kinds := [], alts := [], laidByText := true, laidKinds := [.data, .data, .data, .data, .pinned], laidTests := true, laidLooks := .later }
def NoticeTurnedUptoCardSaid : Prop := Claim7.holds Tryz.pinned (.plain (OpenSpec.upto noticeTurnedSpec)) noticeTurnedUptoCard

/-- THE SECOND FORM's CARD OF 'custodylaw07.NoticeTexts'. -/
def noticeTextsUptoCard : Claim7 := { stood := { row := noticeTextsUptoRow, standIns := [], harness := (true, "46bbc02a403967d1f7fef086eba0620a4641f777977464b56483dae2cc2ade83"), looks := true }, kinds := [], alts := [], laidByText := true, laidKinds := [.data, .data, .data, .data, .handle, .pinned], laidTests := true, laidLooks := .later }
def NoticeTextsUptoCardSaid : Prop := Claim7.holds Tryz.pinned (.plain (OpenSpec.upto noticeTextsSpec)) noticeTextsUptoCard
end Rows
end Go.Proofs.YtblfobepaipebaaGreatDoor
