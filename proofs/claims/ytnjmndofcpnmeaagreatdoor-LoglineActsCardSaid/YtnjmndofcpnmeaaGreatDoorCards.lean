/-
  DERIVED. GIVEN WITH THE SEED: THE CARDS: each row of YtnjmndofcpnmeaaGreatDoorRows.lean that lists a variable, with what it lists TIED to the program's text (the seventh form; the later family's looks); each row that meets fmt, with fmt's text TOLD by the authors' own Lean function (tested against real Go, not proved from fmt's source: count such statements apart). THE CARD IS WHAT COUNTS. Prove the row's statement (the work); the ties are given (YtnjmndofcpnmeaaGreatDoorTie.lean); close each card by the builder's one call (the guide's Derived/Test/ToyasCard.lean, 'card_holds'). Laid BY PROGRAM, IN A SANDBOX (cutbox-door.mjs). By AI agents, Wed Nov 11 2026. No macro, syntax, notation, axiom, sorry.
-/
import Derived.Test.YtnjmndofcpnmeaaGreatDoorRows
import GoSem.ClaimSeven
namespace Go.Proofs.YtnjmndofcpnmeaaGreatDoor
namespace Rows

/-- THE TIED CARD OF 'watchwordlaw51.LoglineBack'. -/
def loglineBackCard : Claim7 := { stood := { row := loglineBackRow, standIns := [], harness := (true, "f7aeaf1cc51c9d492447c9dbf0b597c33e6f4615c8111f9f6dfa7f5fb48870c6"), looks := true }, kinds := [], alts := [], laidByText := true, laidKinds := [.data, .data, .data, .data, .sentinel, .sentinel, .pinned], laidTests := true, laidLooks := .later }
def LoglineBackCardSaid : Prop := Claim7.holds Tryz.pinned (.plain (OpenSpec.ofChange loglineBackSpec)) loglineBackCard

/-- THE TIED CARD OF 'watchwordlaw51.LoglineActs'. -/
def loglineActsCard : Claim7 := { stood := { row := loglineActsRow, standIns := [], harness := (true, "f7aeaf1cc51c9d492447c9dbf0b597c33e6f4615c8111f9f6dfa7f5fb48870c6"), looks := true }, kinds := [], alts := [], laidByText := true, laidKinds := [.data, .data, .data, .data, .sentinel, .sentinel, .pinned], laidTests := true, laidLooks := .later }
def LoglineActsCardSaid : Prop := Claim7.holds Tryz.pinned (.plain (OpenSpec.ofChange loglineActsSpec)) loglineActsCard

/-- THE TIED CARD OF 'watchwordlaw51.LoglineTexts'. -/
def loglineTextsCard : Claim7 := { stood := { row := loglineTextsRow, standIns := [], harness := (true, "f7aeaf1cc51c9d492447c9dbf0b597c33e6f4615c8111f9f6dfa7f5fb48870c6"), looks := true }, kinds := [], alts := [], laidByText := true, laidKinds := [.data, .data, .data, .data, .sentinel, .sentinel, .pinned], laidTests := true, laidLooks := .later }
def LoglineTextsCardSaid : Prop := Claim7.holds Tryz.pinned (.plain (OpenSpec.ofChange loglineTextsSpec)) loglineTextsCard

/-- THE TIED CARD OF 'watchwordlaw51.LoglineParses'. -/
def loglineParsesCard : Claim7 := { stood := { row := loglineParsesRow, standIns := [], harness := (true, "f7aeaf1cc51c9d492447c9dbf0b597c33e6f4615c8111f9f6dfa7f5fb48870c6"), looks := true }, kinds := [], alts := [], laidByText := true, laidKinds := [.data, .data, .data, .data, .sentinel, .sentinel, .pinned], laidTests := true, laidLooks := .later }
def LoglineParsesCardSaid : Prop := Claim7.holds Tryz.pinned (.plain (OpenSpec.ofChange loglineParsesSpec)) loglineParsesCard

/-- THE TIED CARD OF 'watchwordlaw51.LoglineLogs'. -/
def loglineLogsCard : Claim7 := { stood := { row := loglineLogsRow, standIns := [], harness := (true, "f7aeaf1cc51c9d492447c9dbf0b597c33e6f4615c8111f9f6dfa7f5fb48870c6"), looks := true }, kinds := [], alts := [], laidByText := true, laidKinds := [.data, .data, .data, .data, .sentinel, .sentinel, .pinned], laidTests := true, laidLooks := .later }
def LoglineLogsCardSaid : Prop := Claim7.holds Tryz.pinned (.plain (OpenSpec.ofChange loglineLogsSpec)) loglineLogsCard

/-- THE TIED CARD OF 'watchwordlaw51.LoglineAlarms'. -/
def loglineAlarmsCard : Claim7 := { stood := { row := loglineAlarmsRow, standIns := [], harness := (true, "f7aeaf1cc51c9d492447c9dbf0b597c33e6f4615c8111f9f6dfa7f5fb48870c6"), looks := true }, kinds := [], alts := [], laidByText := true, laidKinds := [.data, .data, .data, .data, .sentinel, .sentinel, .pinned], laidTests := true, laidLooks := .later }
def LoglineAlarmsCardSaid : Prop := Claim7.holds Tryz.pinned (.plain (OpenSpec.ofChange loglineAlarmsSpec)) loglineAlarmsCard

/-- THE SECOND FORM's CARD OF 'watchwordlaw51.LoglineBack'. -/
def loglineBackUptoCard : Claim7 := { stood := { row := loglineBackUptoRow, standIns := [], harness := (true, "f7aeaf1cc51c9d492447c9dbf0b597c33e6f4615c8111f9f6dfa7f5fb48870c6"), looks := true }, kinds := [], alts := [], laidByText := true, laidKinds := [.data, .data, .data, .data, .sentinel, .sentinel, .pinned], laidTests := true, laidLooks := .later }
def LoglineBackUptoCardSaid : Prop := Claim7.holds Tryz.pinned (.plain (OpenSpec.upto loglineBackSpec)) loglineBackUptoCard

/-- THE SECOND FORM's CARD OF 'watchwordlaw51.LoglineActs'. -/
def loglineActsUptoCard : Claim7 := { stood := { row := loglineActsUptoRow, standIns := [], harness := (true, "f7aeaf1cc51c9d492447c9dbf0b597c33e6f4615c8111f9f6dfa7f5fb48870c6"), looks := true }, kinds := [], alts := [], laidByText := true, laidKinds := [.data, .data, .data, .data, .sentinel, .sentinel, .pinned], laidTests := true, laidLooks := .later }
def LoglineActsUptoCardSaid : Prop := Claim7.holds Tryz.pinned (.plain (OpenSpec.upto loglineActsSpec)) loglineActsUptoCard

/-- THE SECOND FORM's CARD OF 'watchwordlaw51.LoglineTexts'. -/
def loglineTextsUptoCard : Claim7 := { stood := { row := loglineTextsUptoRow, standIns := [], harness := (true, "f7aeaf1cc51c9d492447c9dbf0b597c33e6f4615c8111f9f6dfa7f5fb48870c6"), looks := true }, kinds := [], alts := [], laidByText := true, laidKinds := [.data, .data, .data, .data, .sentinel, .sentinel, .pinned], laidTests := true, laidLooks := .later }
def LoglineTextsUptoCardSaid : Prop := Claim7.holds Tryz.pinned (.plain (OpenSpec.upto loglineTextsSpec)) loglineTextsUptoCard

/-- THE SECOND FORM's CARD OF 'watchwordlaw51.LoglineParses'. -/
def loglineParsesUptoCard : Claim7 := { stood := { row := loglineParsesUptoRow, standIns := [], harness := (true, "f7aeaf1cc51c9d492447c9dbf0b597c33e6f4615c8111f9f6dfa7f5fb48870c6"), looks := true }, kinds := [], alts := [], laidByText := true, laidKinds := [.data, .data, .data, .data, .sentinel, .sentinel, .pinned], laidTests := true, laidLooks := .later }
def LoglineParsesUptoCardSaid : Prop := Claim7.holds Tryz.pinned (.plain (OpenSpec.upto loglineParsesSpec)) loglineParsesUptoCard

/-- THE SECOND FORM's CARD OF 'watchwordlaw51.LoglineLogs'. -/
def loglineLogsUptoCard : Claim7 := { stood := { row := loglineLogsUptoRow, standIns := [], harness := (true, "f7aeaf1cc51c9d492447c9dbf0b597c33e6f4615c8111f9f6dfa7f5fb48870c6"), looks := true }, kinds := [], alts := [], laidByText := true, laidKinds := [.data, .data, .data, .data, .sentinel, .sentinel, .pinned], laidTests := true, laidLooks := .later }
def LoglineLogsUptoCardSaid : Prop := Claim7.holds Tryz.pinned (.plain (OpenSpec.upto loglineLogsSpec)) loglineLogsUptoCard

/-- THE SECOND FORM's CARD OF 'watchwordlaw51.LoglineAlarms'. -/
def loglineAlarmsUptoCard : Claim7 := { stood := { row := loglineAlarmsUptoRow, standIns := [], harness := (true, "f7aeaf1cc51c9d492447c9dbf0b597c33e6f4615c8111f9f6dfa7f5fb48870c6"), looks := true }, kinds := [], alts := [], laidByText := true, laidKinds := [.data, .data, .data, .data, .sentinel, .sentinel, .pinned], laidTests := true, laidLooks := .later }
def LoglineAlarmsUptoCardSaid : Prop := Claim7.holds Tryz.pinned (.plain (OpenSpec.upto loglineAlarmsSpec)) loglineAlarmsUptoCard
end Rows
end Go.Proofs.YtnjmndofcpnmeaaGreatDoor
