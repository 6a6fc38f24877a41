/-
  DERIVED. GIVEN WITH THE SEED: THE CARDS: each row of YtgclchdccgkjaaaDoorRows.lean that lists a variable, with what it lists TIED to the program's text (the seventh form; the later family's looks); each row that meets fmt, with fmt's text TOLD by the authors' own Lean function (tested against real Go, not proved from fmt's source: count such statements apart). THE CARD IS WHAT COUNTS. Prove the row's statement (the work); the ties are given (YtgclchdccgkjaaaDoorTie.lean); close each card by the builder's one call (the guide's Derived/Test/ToyasCard.lean, 'card_holds'). Laid BY PROGRAM, IN A SANDBOX (cutbox-door.mjs). By AI agents, Wed Nov 11 2026. No macro, syntax, notation, axiom, sorry.
-/
import Derived.Test.YtgclchdccgkjaaaDoorRows
import GoSem.ClaimSeven
namespace Go.Proofs.YtgclchdccgkjaaaDoor
namespace Rows

/-- THE TIED CARD OF 'watchwordlaw12.NameValid'. -/
def nameValidCard : Claim7 := { stood := { row := nameValidRow, standIns := [], harness := (true, "f33252ae79794f538671ebef258347f59e18bd879b9256d507b38bc20d846068"), looks := true }, kinds := [], alts := [], laidByText := true, laidKinds := [.data, .pinned], laidTests := true, laidLooks := .later }
def NameValidCardSaid : Prop := Claim7.holds Tryd.pinned (.plain (OpenSpec.ofChange nameValidSpec)) nameValidCard

/-- THE TIED CARD OF 'watchwordlaw12.NameParses'. -/
def nameParsesCard : Claim7 := { stood := { row := nameParsesRow, standIns := [], harness := (true, "f33252ae79794f538671ebef258347f59e18bd879b9256d507b38bc20d846068"), looks := true }, kinds := [], alts := [], laidByText := true, laidKinds := [.data, .pinned], laidTests := true, laidLooks := .later }
def NameParsesCardSaid : Prop := Claim7.holds Tryd.pinned (.plain (OpenSpec.ofChange nameParsesSpec)) nameParsesCard

/-- THE TIED CARD OF 'watchwordlaw12.NameEncodes'. -/
def nameEncodesCard : Claim7 := { stood := { row := nameEncodesRow, standIns := [], harness := (true, "f33252ae79794f538671ebef258347f59e18bd879b9256d507b38bc20d846068"), looks := true }, kinds := [], alts := [], laidByText := true, laidKinds := [.data, .pinned], laidTests := true, laidLooks := .later }
def NameEncodesCardSaid : Prop := Claim7.holds Tryd.pinned (.plain (OpenSpec.ofChange nameEncodesSpec)) nameEncodesCard

/-- THE TIED CARD OF 'watchwordlaw12.NameTargets'. -/
def nameTargetsCard : Claim7 := { stood := { row := nameTargetsRow, standIns := [], harness := (true, "f33252ae79794f538671ebef258347f59e18bd879b9256d507b38bc20d846068"), looks := true }, kinds := [], alts := [], laidByText := true, laidKinds := [.data, .pinned], laidTests := true, laidLooks := .later }
def NameTargetsCardSaid : Prop := Claim7.holds Tryd.pinned (.plain (OpenSpec.ofChange nameTargetsSpec)) nameTargetsCard

/-- THE TIED CARD OF 'watchwordlaw12.NameParents'. -/
def nameParentsCard : Claim7 := { stood := { row := nameParentsRow, standIns := [], harness := (true, "f33252ae79794f538671ebef258347f59e18bd879b9256d507b38bc20d846068"), looks := true }, kinds := [], alts := [], laidByText := true, laidKinds := [.data, .pinned], laidTests := true, laidLooks := .later }
def NameParentsCardSaid : Prop := Claim7.holds Tryd.pinned (.plain (OpenSpec.ofChange nameParentsSpec)) nameParentsCard

/-- THE TIED CARD OF 'watchwordlaw12.NameOrders'. -/
def nameOrdersCard : Claim7 := { stood := { row := nameOrdersRow, standIns := [], harness := (true, "f33252ae79794f538671ebef258347f59e18bd879b9256d507b38bc20d846068"), looks := true }, kinds := [], alts := [], laidByText := true, laidKinds := [.data, .pinned], laidTests := true, laidLooks := .later }
def NameOrdersCardSaid : Prop := Claim7.holds Tryd.pinned (.plain (OpenSpec.ofChange nameOrdersSpec)) nameOrdersCard

/-- THE TIED CARD OF 'watchwordlaw12.NameInverts'. -/
def nameInvertsCard : Claim7 := { stood := { row := nameInvertsRow, standIns := [], harness := (true, "f33252ae79794f538671ebef258347f59e18bd879b9256d507b38bc20d846068"), looks := true }, kinds := [], alts := [], laidByText := true, laidKinds := [.data, .pinned], laidTests := true, laidLooks := .later }
def NameInvertsCardSaid : Prop := Claim7.holds Tryd.pinned (.plain (OpenSpec.ofChange nameInvertsSpec)) nameInvertsCard

/-- THE SECOND FORM's CARD OF 'watchwordlaw12.NameValid'. -/
def nameValidUptoCard : Claim7 := { stood := { row := nameValidUptoRow, standIns := [], harness := (true, "f33252ae79794f538671ebef258347f59e18bd879b9256d507b38bc20d846068"), looks := true }, kinds := [], alts := [], laidByText := true, laidKinds := [.data, .pinned], laidTests := true, laidLooks := .later }
def NameValidUptoCardSaid : Prop := Claim7.holds Tryd.pinned (.plain (OpenSpec.upto nameValidSpec)) nameValidUptoCard

/-- THE SECOND FORM's CARD OF 'watchwordlaw12.NameParses'. -/
def nameParsesUptoCard : Claim7 := { stood := { row := nameParsesUptoRow, standIns := [], harness := (true, "f33252ae79794f538671ebef258347f59e18bd879b9256d507b38bc20d846068"), looks := true }, kinds := [], alts := [], laidByText := true, laidKinds := [.data, .pinned], laidTests := true, laidLooks := .later }
def NameParsesUptoCardSaid : Prop := Claim7.holds Tryd.pinned (.plain (OpenSpec.upto nameParsesSpec)) nameParsesUptoCard

/-- THE SECOND FORM's CARD OF 'watchwordlaw12.NameEncodes'. -/
def nameEncodesUptoCard : Claim7 := { stood := { row := nameEncodesUptoRow, standIns := [], harness := (true, "f33252ae79794f538671ebef258347f59e18bd879b9256d507b38bc20d846068"), looks := true }, kinds := [], alts := [], laidByText := true, laidKinds := [.data, .pinned], laidTests := true, laidLooks := .later }
def NameEncodesUptoCardSaid : Prop := Claim7.holds Tryd.pinned (.plain (OpenSpec.upto nameEncodesSpec)) nameEncodesUptoCard

/-- THE SECOND FORM's CARD OF 'watchwordlaw12.NameTargets'. -/
def nameTargetsUptoCard : Claim7 := { stood := { row := nameTargetsUptoRow, standIns := [], harness := (true, "f33252ae79794f538671ebef258347f59e18bd879b9256d507b38bc20d846068"), looks := true }, kinds := [], alts := [], laidByText := true, laidKinds := [.data, .pinned], laidTests := true, laidLooks := .later }
def NameTargetsUptoCardSaid : Prop := Claim7.holds Tryd.pinned (.plain (OpenSpec.upto nameTargetsSpec)) nameTargetsUptoCard

/-- THE SECOND FORM's CARD OF 'watchwordlaw12.NameParents'. -/
def nameParentsUptoCard : Claim7 := { stood := { row := nameParentsUptoRow, standIns := [], harness := (true, "f33252ae79794f538671ebef258347f59e18bd879b9256d507b38bc20d846068"), looks := true }, kinds := [], alts := [], laidByText := true, laidKinds := [.data, .pinned], laidTests := true, laidLooks := .later }
def NameParentsUptoCardSaid : Prop := Claim7.holds Tryd.pinned (.plain (OpenSpec.upto nameParentsSpec)) nameParentsUptoCard

/-- THE SECOND FORM's CARD OF 'watchwordlaw12.NameOrders'. -/
def nameOrdersUptoCard : Claim7 := { stood := { row := nameOrdersUptoRow, standIns := [], harness := (true, "f33252ae79794f538671ebef258347f59e18bd879b9256d507b38bc20d846068"), looks := true }, kinds := [], alts := [], laidByText := true, laidKinds := [.data, .pinned], laidTests := true, laidLooks := .later }
def NameOrdersUptoCardSaid : Prop := Claim7.holds Tryd.pinned (.plain (OpenSpec.upto nameOrdersSpec)) nameOrdersUptoCard

/-- THE SECOND FORM's CARD OF 'watchwordlaw12.NameInverts'. -/
def nameInvertsUptoCard : Claim7 := { stood := { row := nameInvertsUptoRow, standIns := [], harness := (true, "f33252ae79794f538671ebef258347f59e18bd879b9256d507b38bc20d846068"), looks := true }, kinds := [], alts := [], laidByText := true, laidKinds := [.data, .pinned], laidTests := true, laidLooks := .later }
def NameInvertsUptoCardSaid : Prop := Claim7.holds Tryd.pinned (.plain (OpenSpec.upto nameInvertsSpec)) nameInvertsUptoCard
end Rows
end Go.Proofs.YtgclchdccgkjaaaDoor
