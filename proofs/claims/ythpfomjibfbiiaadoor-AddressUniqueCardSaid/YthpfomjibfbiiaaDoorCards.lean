/-
  DERIVED. GIVEN WITH THE SEED: THE CARDS: each row of YthpfomjibfbiiaaDoorRows.lean that lists a variable, with what it lists TIED to the program's text (the seventh form; the later family's looks); each row that meets fmt, with fmt's text TOLD by the authors' own Lean function (tested against real Go, not proved from fmt's source: count such statements apart). THE CARD IS WHAT COUNTS. Prove the row's statement (the work); the ties are given (YthpfomjibfbiiaaDoorTie.lean); close each card by the builder's one call (the guide's Derived/Test/ToyasCard.lean, 'card_holds'). Laid BY PROGRAM, IN A SANDBOX (cutbox-door.mjs). By AI agents, Wed Nov 11 2026. No macro, syntax, notation, axiom, sorry.
-/
import Derived.Test.YthpfomjibfbiiaaDoorRows
import GoSem.ClaimSeven
namespace Go.Proofs.YthpfomjibfbiiaaDoor
namespace Rows

/-- THE TIED CARD OF 'watchwordlaw15.AddressParses'. -/
def addressParsesCard : Claim7 := { stood := { row := addressParsesRow, standIns := [], harness := (true, "914e1b234b4355f8ed80951b2e2a11ee2b5e585e75ecfab450960ebe2063867d"), looks := true }, kinds := [], alts := [], laidByText := true, laidKinds := [.data, .data, .data, .data, .sentinel, .sentinel, .pinned], laidTests := true, laidLooks := .later }
def AddressParsesCardSaid : Prop := Claim7.holds Tryd.pinned (.plain (OpenSpec.ofChange addressParsesSpec)) addressParsesCard

/-- THE TIED CARD OF 'watchwordlaw15.AddressNetworks'. -/
def addressNetworksCard : Claim7 := { stood := { row := addressNetworksRow, standIns := [], harness := (true, "914e1b234b4355f8ed80951b2e2a11ee2b5e585e75ecfab450960ebe2063867d"), looks := true }, kinds := [], alts := [], laidByText := true, laidKinds := [.data, .data, .data, .data, .sentinel, .sentinel, .pinned], laidTests := true, laidLooks := .later }
def AddressNetworksCardSaid : Prop := Claim7.holds Tryd.pinned (.plain (OpenSpec.ofChange addressNetworksSpec)) addressNetworksCard

/-- THE TIED CARD OF 'watchwordlaw15.AddressTexts'. -/
def addressTextsCard : Claim7 := { stood := { row := addressTextsRow, standIns := [], harness := (true, "914e1b234b4355f8ed80951b2e2a11ee2b5e585e75ecfab450960ebe2063867d"), looks := true }, kinds := [], alts := [], laidByText := true, laidKinds := [.data, .data, .data, .data, .sentinel, .sentinel, .pinned], laidTests := true, laidLooks := .later }
def AddressTextsCardSaid : Prop := Claim7.holds Tryd.pinned (.plain (OpenSpec.ofChange addressTextsSpec)) addressTextsCard

/-- THE TIED CARD OF 'watchwordlaw15.AddressUnique'. -/
def addressUniqueCard : Claim7 := { stood := { row := addressUniqueRow, standIns := [], harness := (true, "914e1b234b4355f8ed80951b2e2a11ee2b5e585e75ecfab450960ebe2063867d"), looks := true }, kinds := [], alts := [], laidByText := true, laidKinds := [.data, .data, .data, .data, .sentinel, .sentinel, .pinned], laidTests := true, laidLooks := .later }
def AddressUniqueCardSaid : Prop := Claim7.holds Tryd.pinned (.plain (OpenSpec.ofChange addressUniqueSpec)) addressUniqueCard

/-- THE SECOND FORM's CARD OF 'watchwordlaw15.AddressParses'. -/
def addressParsesUptoCard : Claim7 := { stood := { row := addressParsesUptoRow, standIns := [], harness := (true, "914e1b234b4355f8ed80951b2e2a11ee2b5e585e75ecfab450960ebe2063867d"), looks := true }, kinds := [], alts := [], laidByText := true, laidKinds := [.data, .data, .data, .data, .sentinel, .sentinel, .pinned], laidTests := true, laidLooks := .later }
def AddressParsesUptoCardSaid : Prop := Claim7.holds Tryd.pinned (.plain (OpenSpec.upto addressParsesSpec)) addressParsesUptoCard

/-- THE SECOND FORM's CARD OF 'watchwordlaw15.AddressNetworks'. -/
def addressNetworksUptoCard : Claim7 := { stood := { row := addressNetworksUptoRow, standIns := [], harness := (true, "914e1b234b4355f8ed80951b2e2a11ee2b5e585e75ecfab450960ebe2063867d"), looks := true }, kinds := [], alts := [], laidByText := true, laidKinds := [.data, .data, .data, .data, .sentinel, .sentinel, .pinned], laidTests := true, laidLooks := .later }
def AddressNetworksUptoCardSaid : Prop := Claim7.holds Tryd.pinned (.plain (OpenSpec.upto addressNetworksSpec)) addressNetworksUptoCard

/-- THE SECOND FORM's CARD OF 'watchwordlaw15.AddressTexts'. -/
def addressTextsUptoCard : Claim7 := { stood := { row := addressTextsUptoRow, standIns := [], harness := (true, "914e1b234b4355f8ed80951b2e2a11ee2b5e585e75ecfab450960ebe2063867d"), looks := true }, kinds := [], alts := [], laidByText := true, laidKinds := [.data, .data, .data, .data, .sentinel, .sentinel, .pinned], laidTests := true, laidLooks := .later }
def AddressTextsUptoCardSaid : Prop := Claim7.holds Tryd.pinned (.plain (OpenSpec.upto addressTextsSpec)) addressTextsUptoCard

/-- THE SECOND FORM's CARD OF 'watchwordlaw15.AddressUnique'. -/
def addressUniqueUptoCard : Claim7 := { stood := { row := addressUniqueUptoRow, standIns := [], harness := (true, "914e1b234b4355f8ed80951b2e2a11ee2b5e585e75ecfab450960ebe2063867d"), looks := true }, kinds := [], alts := [], laidByText := true, laidKinds := [.data, .data, .data, .data, .sentinel, .sentinel, .pinned], laidTests := true, laidLooks := .later }
def AddressUniqueUptoCardSaid : Prop := Claim7.holds Tryd.pinned (.plain (OpenSpec.upto addressUniqueSpec)) addressUniqueUptoCard
end Rows
end Go.Proofs.YthpfomjibfbiiaaDoor
