/-
  DERIVED. GIVEN WITH THE SEED: THE CARDS: each row of YthpfomjibfbiiaaGreatDoorRows.lean that lists a variable, with what it lists TIED to the program's text (the seventh form; the later family's looks); each row that meets fmt, with fmt's text TOLD by the authors' own Lean function (tested against real Go, not proved from fmt's source: count such statements apart). THE CARD IS WHAT COUNTS. Prove the row's statement (the work); the ties are given (YthpfomjibfbiiaaGreatDoorTie.lean); close each card by the builder's one call (the guide's Derived/Test/ToyasCard.lean, 'card_holds'). Laid BY PROGRAM, IN A SANDBOX (cutbox-door.mjs). By AI agents, Wed Nov 11 2026. No macro, syntax, notation, axiom, sorry.
-/
import Derived.Test.YthpfomjibfbiiaaGreatDoorRows
import GoSem.ClaimSeven
namespace Go.Proofs.YthpfomjibfbiiaaGreatDoor
namespace Rows

/-- THE TIED CARD OF 'watchwordlaw15.AddressLists'. -/
def addressListsCard : Claim7 := { stood := { row := addressListsRow, standIns := [], harness := (true, "776e6c7010a152e4863604b9bdb804981384dbbcdc3690d8d190b6ca6a7f912b"), looks := true }, kinds := [], alts := [], laidByText := true, laidKinds := [.data, .data, .data, .data, .sentinel, .sentinel, .pinned], laidTests := true, laidLooks := .later }
def AddressListsCardSaid : Prop := Claim7.holds Tryz.pinned (.plain (OpenSpec.ofChange addressListsSpec)) addressListsCard

/-- THE TIED CARD OF 'watchwordlaw15.AddressEncodes'. -/
def addressEncodesCard : Claim7 := { stood := { row := addressEncodesRow, standIns := [], harness := (true, "776e6c7010a152e4863604b9bdb804981384dbbcdc3690d8d190b6ca6a7f912b"), looks := true }, kinds := [], alts := [], laidByText := true, laidKinds := [.data, .data, .data, .data, .sentinel, .sentinel, .pinned], laidTests := true, laidLooks := .later }
def AddressEncodesCardSaid : Prop := Claim7.holds Tryz.pinned (.plain (OpenSpec.ofChange addressEncodesSpec)) addressEncodesCard

/-- THE TIED CARD OF 'watchwordlaw15.AddressHolds'. -/
def addressHoldsCard : Claim7 := { stood := { row := addressHoldsRow, standIns := [], harness := (true, "776e6c7010a152e4863604b9bdb804981384dbbcdc3690d8d190b6ca6a7f912b"), looks := true }, kinds := [], alts := [], laidByText := true, laidKinds := [.data, .data, .data, .data, .sentinel, .sentinel, .pinned], laidTests := true, laidLooks := .later }
def AddressHoldsCardSaid : Prop := Claim7.holds Tryz.pinned (.plain (OpenSpec.ofChange addressHoldsSpec)) addressHoldsCard

/-- THE SECOND FORM's CARD OF 'watchwordlaw15.AddressLists'. -/
def addressListsUptoCard : Claim7 := { stood := { row := addressListsUptoRow, standIns := [], harness := (true, "776e6c7010a152e4863604b9bdb804981384dbbcdc3690d8d190b6ca6a7f912b"), looks := true }, kinds := [], alts := [], laidByText := true, laidKinds := [.data, .data, .data, .data, .sentinel, .sentinel, .pinned], laidTests := true, laidLooks := .later }
def AddressListsUptoCardSaid : Prop := Claim7.holds Tryz.pinned (.plain (OpenSpec.upto addressListsSpec)) addressListsUptoCard

/-- THE SECOND FORM's CARD OF 'watchwordlaw15.AddressEncodes'. -/
def addressEncodesUptoCard : Claim7 := { stood := { row := addressEncodesUptoRow, standIns := [], harness := (true, "776e6c7010a152e4863604b9bdb804981384dbbcdc3690d8d190b6ca6a7f912b"), looks := true }, kinds := [], alts := [], laidByText := true, laidKinds := [.data, .data, .data, .data, .sentinel, .sentinel, .pinned], laidTests := true, laidLooks := .later }
def AddressEncodesUptoCardSaid : Prop := Claim7.holds Tryz.pinned (.plain (OpenSpec.upto addressEncodesSpec)) addressEncodesUptoCard

/-- THE SECOND FORM's CARD OF 'watchwordlaw15.AddressHolds'. -/
def addressHoldsUptoCard : Claim7 := { stood := { row := addressHoldsUptoRow, standIns := [], harness := (true, "776e6c7010a152e4863604b9bdb804981384dbbcdc3690d8d190b6ca6a7f912b"), looks := true }, kinds := [], alts := [], laidByText := true, laidKinds := [.data, .data, .data, .data, .sentinel, .sentinel, .pinned], laidTests := true, laidLooks := .later }
def AddressHoldsUptoCardSaid : Prop := Claim7.holds Tryz.pinned (.plain (OpenSpec.upto addressHoldsSpec)) addressHoldsUptoCard
end Rows
end Go.Proofs.YthpfomjibfbiiaaGreatDoor
