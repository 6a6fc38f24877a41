/-
  DERIVED. GIVEN WITH THE SEED: THE CARDS: each row of YtigjecmhhjjenaaDoorRows.lean that lists a variable, with what it lists TIED to the program's text (the seventh form; the later family's looks); each row that meets fmt, with fmt's text TOLD by the authors' own Lean function (tested against real Go, not proved from fmt's source: count such statements apart). THE CARD IS WHAT COUNTS. Prove the row's statement (the work); the ties are given (YtigjecmhhjjenaaDoorTie.lean); close each card by the builder's one call (the guide's Derived/Test/ToyasCard.lean, 'card_holds'). Laid BY PROGRAM, IN A SANDBOX (cutbox-door.mjs). By AI agents, Wed Nov 11 2026. No macro, syntax, notation, axiom, sorry.
-/
import Derived.Test.YtigjecmhhjjenaaDoorRows
import GoSem.ClaimSeven
namespace Go.Proofs.YtigjecmhhjjenaaDoor
namespace Rows

/-- THE TIED CARD OF 'watchwordlaw14.FlagsValid'. -/
def flagsValidCard : Claim7 := { stood := { row := flagsValidRow, standIns := [], harness := (true, "2eb9f3e48f263a13e027cb8e14b9a9568edbe590a22a1fc3676e9e57eb3cc82f"), looks := false }, kinds := [], alts := [], laidByText := true, laidKinds := [.data, .pinned], laidTests := true, laidLooks := .later }
def FlagsValidCardSaid : Prop := Claim7.holds Tryd.pinned (.plain (OpenSpec.ofChange flagsValidSpec)) flagsValidCard

/-- THE TIED CARD OF 'watchwordlaw14.FlagsTexts'. -/
def flagsTextsCard : Claim7 := { stood := { row := flagsTextsRow, standIns := [], harness := (true, "2eb9f3e48f263a13e027cb8e14b9a9568edbe590a22a1fc3676e9e57eb3cc82f"), looks := false }, kinds := [], alts := [], laidByText := true, laidKinds := [.data, .pinned], laidTests := true, laidLooks := .later }
def FlagsTextsCardSaid : Prop := Claim7.holds Tryd.pinned (.plain (OpenSpec.ofChange flagsTextsSpec)) flagsTextsCard

/-- THE TIED CARD OF 'watchwordlaw14.FlagsEach'. -/
def flagsEachCard : Claim7 := { stood := { row := flagsEachRow, standIns := [], harness := (true, "2eb9f3e48f263a13e027cb8e14b9a9568edbe590a22a1fc3676e9e57eb3cc82f"), looks := false }, kinds := [], alts := [], laidByText := true, laidKinds := [.data, .pinned], laidTests := true, laidLooks := .later }
def FlagsEachCardSaid : Prop := Claim7.holds Tryd.pinned (.plain (OpenSpec.ofChange flagsEachSpec)) flagsEachCard

/-- THE TIED CARD OF 'watchwordlaw14.FlagsInitial'. -/
def flagsInitialCard : Claim7 := { stood := { row := flagsInitialRow, standIns := [], harness := (true, "2eb9f3e48f263a13e027cb8e14b9a9568edbe590a22a1fc3676e9e57eb3cc82f"), looks := false }, kinds := [], alts := [], laidByText := true, laidKinds := [.data, .pinned], laidTests := true, laidLooks := .later }
def FlagsInitialCardSaid : Prop := Claim7.holds Tryd.pinned (.plain (OpenSpec.ofChange flagsInitialSpec)) flagsInitialCard

/-- THE TIED CARD OF 'watchwordlaw14.FlagsGrants'. -/
def flagsGrantsCard : Claim7 := { stood := { row := flagsGrantsRow, standIns := [], harness := (true, "2eb9f3e48f263a13e027cb8e14b9a9568edbe590a22a1fc3676e9e57eb3cc82f"), looks := false }, kinds := [], alts := [], laidByText := true, laidKinds := [.data, .pinned], laidTests := true, laidLooks := .later }
def FlagsGrantsCardSaid : Prop := Claim7.holds Tryd.pinned (.plain (OpenSpec.ofChange flagsGrantsSpec)) flagsGrantsCard

/-- THE TIED CARD OF 'watchwordlaw14.FlagsHolds'. -/
def flagsHoldsCard : Claim7 := { stood := { row := flagsHoldsRow, standIns := [], harness := (true, "2eb9f3e48f263a13e027cb8e14b9a9568edbe590a22a1fc3676e9e57eb3cc82f"), looks := false }, kinds := [], alts := [], laidByText := true, laidKinds := [.data, .pinned], laidTests := true, laidLooks := .later }
def FlagsHoldsCardSaid : Prop := Claim7.holds Tryd.pinned (.plain (OpenSpec.ofChange flagsHoldsSpec)) flagsHoldsCard

/-- THE TIED CARD OF 'watchwordlaw14.FlagsDecodes'. -/
def flagsDecodesCard : Claim7 := { stood := { row := flagsDecodesRow, standIns := [], harness := (true, "2eb9f3e48f263a13e027cb8e14b9a9568edbe590a22a1fc3676e9e57eb3cc82f"), looks := false }, kinds := [], alts := [], laidByText := true, laidKinds := [.data, .pinned], laidTests := true, laidLooks := .later }
def FlagsDecodesCardSaid : Prop := Claim7.holds Tryd.pinned (.plain (OpenSpec.ofChange flagsDecodesSpec)) flagsDecodesCard

/-- THE TIED CARD OF 'watchwordlaw14.FlagsInverts'. -/
def flagsInvertsCard : Claim7 := { stood := { row := flagsInvertsRow, standIns := [], harness := (true, "2eb9f3e48f263a13e027cb8e14b9a9568edbe590a22a1fc3676e9e57eb3cc82f"), looks := false }, kinds := [], alts := [], laidByText := true, laidKinds := [.data, .pinned], laidTests := true, laidLooks := .later }
def FlagsInvertsCardSaid : Prop := Claim7.holds Tryd.pinned (.plain (OpenSpec.ofChange flagsInvertsSpec)) flagsInvertsCard

/-- THE SECOND FORM's CARD OF 'watchwordlaw14.FlagsValid'. -/
def flagsValidUptoCard : Claim7 := { stood := { row := flagsValidUptoRow, standIns := [], harness := (true, "2eb9f3e48f263a13e027cb8e14b9a9568edbe590a22a1fc3676e9e57eb3cc82f"), looks := false }, kinds := [], alts := [], laidByText := true, laidKinds := [.data, .pinned], laidTests := true, laidLooks := .later }
def FlagsValidUptoCardSaid : Prop := Claim7.holds Tryd.pinned (.plain (OpenSpec.upto flagsValidSpec)) flagsValidUptoCard

/-- THE SECOND FORM's CARD OF 'watchwordlaw14.FlagsTexts'. -/
def flagsTextsUptoCard : Claim7 := { stood := { row := flagsTextsUptoRow, standIns := [], harness := (true, "2eb9f3e48f263a13e027cb8e14b9a9568edbe590a22a1fc3676e9e57eb3cc82f"), looks := false }, kinds := [], alts := [], laidByText := true, laidKinds := [.data, .pinned], laidTests := true, laidLooks := .later }
def FlagsTextsUptoCardSaid : Prop := Claim7.holds Tryd.pinned (.plain (OpenSpec.upto flagsTextsSpec)) flagsTextsUptoCard

/-- THE SECOND FORM's CARD OF 'watchwordlaw14.FlagsEach'. -/
def flagsEachUptoCard : Claim7 := { stood := { row := flagsEachUptoRow, standIns := [], harness := (true, "2eb9f3e48f263a13e027cb8e14b9a9568edbe590a22a1fc3676e9e57eb3cc82f"), looks := false }, kinds := [], alts := [], laidByText := true, laidKinds := [.data, .pinned], laidTests := true, laidLooks := .later }
def FlagsEachUptoCardSaid : Prop := Claim7.holds Tryd.pinned (.plain (OpenSpec.upto flagsEachSpec)) flagsEachUptoCard

/-- THE SECOND FORM's CARD OF 'watchwordlaw14.FlagsInitial'. -/
def flagsInitialUptoCard : Claim7 := { stood := { row := flagsInitialUptoRow, standIns := [], harness := (true, "2eb9f3e48f263a13e027cb8e14b9a9568edbe590a22a1fc3676e9e57eb3cc82f"), looks := false }, kinds := [], alts := [], laidByText := true, laidKinds := [.data, .pinned], laidTests := true, laidLooks := .later }
def FlagsInitialUptoCardSaid : Prop := Claim7.holds Tryd.pinned (.plain (OpenSpec.upto flagsInitialSpec)) flagsInitialUptoCard

/-- THE SECOND FORM's CARD OF 'watchwordlaw14.FlagsGrants'. -/
def flagsGrantsUptoCard : Claim7 := { stood := { row := flagsGrantsUptoRow, standIns := [], harness := (true, "2eb9f3e48f263a13e027cb8e14b9a9568edbe590a22a1fc3676e9e57eb3cc82f"), looks := false }, kinds := [], alts := [], laidByText := true, laidKinds := [.data, .pinned], laidTests := true, laidLooks := .later }
def FlagsGrantsUptoCardSaid : Prop := Claim7.holds Tryd.pinned (.plain (OpenSpec.upto flagsGrantsSpec)) flagsGrantsUptoCard

/-- THE SECOND FORM's CARD OF 'watchwordlaw14.FlagsHolds'. -/
def flagsHoldsUptoCard : Claim7 := { stood := { row := flagsHoldsUptoRow, standIns := [], harness := (true, "2eb9f3e48f263a13e027cb8e14b9a9568edbe590a22a1fc3676e9e57eb3cc82f"), looks := false }, kinds := [], alts := [], laidByText := true, laidKinds := [.data, .pinned], laidTests := true, laidLooks := .later }
def FlagsHoldsUptoCardSaid : Prop := Claim7.holds Tryd.pinned (.plain (OpenSpec.upto flagsHoldsSpec)) flagsHoldsUptoCard

/-- THE SECOND FORM's CARD OF 'watchwordlaw14.FlagsDecodes'. -/
def flagsDecodesUptoCard : Claim7 := { stood := { row := flagsDecodesUptoRow, standIns := [], harness := (true, "2eb9f3e48f263a13e027cb8e14b9a9568edbe590a22a1fc3676e9e57eb3cc82f"), looks := false }, kinds := [], alts := [], laidByText := true, laidKinds := [.data, .pinned], laidTests := true, laidLooks := .later }
def FlagsDecodesUptoCardSaid : Prop := Claim7.holds Tryd.pinned (.plain (OpenSpec.upto flagsDecodesSpec)) flagsDecodesUptoCard

/-- THE SECOND FORM's CARD OF 'watchwordlaw14.FlagsInverts'. -/
def flagsInvertsUptoCard : Claim7 := { stood := { row := flagsInvertsUptoRow, standIns := [], harness := (true, "2eb9f3e48f263a13e027cb8e14b9a9568edbe590a22a1fc3676e9e57eb3cc82f"), looks := false }, kinds := [], alts := [], laidByText := true, laidKinds := [.data, .pinned], laidTests := true, laidLooks := .later }
def FlagsInvertsUptoCardSaid : Prop := Claim7.holds Tryd.pinned (.plain (OpenSpec.upto flagsInvertsSpec)) flagsInvertsUptoCard
end Rows
end Go.Proofs.YtigjecmhhjjenaaDoor
