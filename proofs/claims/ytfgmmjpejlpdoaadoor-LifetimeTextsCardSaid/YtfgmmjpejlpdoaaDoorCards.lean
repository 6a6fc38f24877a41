/-
  DERIVED. GIVEN WITH THE SEED: THE CARDS: each row of YtfgmmjpejlpdoaaDoorRows.lean that lists a variable, with what it lists TIED to the program's text (the seventh form; the later family's looks); each row that meets fmt, with fmt's text TOLD by the authors' own Lean function (tested against real Go, not proved from fmt's source: count such statements apart). THE CARD IS WHAT COUNTS. Prove the row's statement (the work); the ties are given (YtfgmmjpejlpdoaaDoorTie.lean); close each card by the builder's one call (the guide's Derived/Test/ToyasCard.lean, 'card_holds'). Laid BY PROGRAM, IN A SANDBOX (cutbox-door.mjs). By AI agents, Wed Nov 11 2026. No macro, syntax, notation, axiom, sorry.
-/
import Derived.Test.YtfgmmjpejlpdoaaDoorRows
import GoSem.ClaimSeven
namespace Go.Proofs.YtfgmmjpejlpdoaaDoor
namespace Rows

/-- THE TIED CARD OF 'watchwordlaw13.LifetimeInitial'. -/
def lifetimeInitialCard : Claim7 := { stood := { row := lifetimeInitialRow, standIns := [], harness := (true, "b415d0d9cc8ef32e2c0447c2d72549c62f1b84545bba6bc8fba84b504e33ab64"), looks := true }, kinds := [], alts := [], laidByText := true, laidKinds := [.data, .data, .data], laidTests := true, laidLooks := .later }
def LifetimeInitialCardSaid : Prop := Claim7.holds Tryd.pinned (.plain (OpenSpec.ofChange lifetimeInitialSpec)) lifetimeInitialCard

/-- THE TIED CARD OF 'watchwordlaw13.LifetimeDerives'. -/
def lifetimeDerivesCard : Claim7 := { stood := { row := lifetimeDerivesRow, standIns := [], harness := (true, "b415d0d9cc8ef32e2c0447c2d72549c62f1b84545bba6bc8fba84b504e33ab64"), looks := true }, kinds := [], alts := [], laidByText := true, laidKinds := [.data, .data, .data], laidTests := true, laidLooks := .later }
def LifetimeDerivesCardSaid : Prop := Claim7.holds Tryd.pinned (.plain (OpenSpec.ofChange lifetimeDerivesSpec)) lifetimeDerivesCard

/-- THE TIED CARD OF 'watchwordlaw13.LifetimeRenews'. -/
def lifetimeRenewsCard : Claim7 := { stood := { row := lifetimeRenewsRow, standIns := [], harness := (true, "b415d0d9cc8ef32e2c0447c2d72549c62f1b84545bba6bc8fba84b504e33ab64"), looks := true }, kinds := [], alts := [], laidByText := true, laidKinds := [.data, .data, .data], laidTests := true, laidLooks := .later }
def LifetimeRenewsCardSaid : Prop := Claim7.holds Tryd.pinned (.plain (OpenSpec.ofChange lifetimeRenewsSpec)) lifetimeRenewsCard

/-- THE TIED CARD OF 'watchwordlaw13.LifetimeHolds'. -/
def lifetimeHoldsCard : Claim7 := { stood := { row := lifetimeHoldsRow, standIns := [], harness := (true, "b415d0d9cc8ef32e2c0447c2d72549c62f1b84545bba6bc8fba84b504e33ab64"), looks := true }, kinds := [], alts := [], laidByText := true, laidKinds := [.data, .data, .data], laidTests := true, laidLooks := .later }
def LifetimeHoldsCardSaid : Prop := Claim7.holds Tryd.pinned (.plain (OpenSpec.ofChange lifetimeHoldsSpec)) lifetimeHoldsCard

/-- THE TIED CARD OF 'watchwordlaw13.LifetimeWithin'. -/
def lifetimeWithinCard : Claim7 := { stood := { row := lifetimeWithinRow, standIns := [], harness := (true, "b415d0d9cc8ef32e2c0447c2d72549c62f1b84545bba6bc8fba84b504e33ab64"), looks := true }, kinds := [], alts := [], laidByText := true, laidKinds := [.data, .data, .data], laidTests := true, laidLooks := .later }
def LifetimeWithinCardSaid : Prop := Claim7.holds Tryd.pinned (.plain (OpenSpec.ofChange lifetimeWithinSpec)) lifetimeWithinCard

/-- THE TIED CARD OF 'watchwordlaw13.LifetimeUses'. -/
def lifetimeUsesCard : Claim7 := { stood := { row := lifetimeUsesRow, standIns := [], harness := (true, "b415d0d9cc8ef32e2c0447c2d72549c62f1b84545bba6bc8fba84b504e33ab64"), looks := true }, kinds := [], alts := [], laidByText := true, laidKinds := [.data, .data, .data], laidTests := true, laidLooks := .later }
def LifetimeUsesCardSaid : Prop := Claim7.holds Tryd.pinned (.plain (OpenSpec.ofChange lifetimeUsesSpec)) lifetimeUsesCard

/-- THE TIED CARD OF 'watchwordlaw13.LifetimeDecodes'. -/
def lifetimeDecodesCard : Claim7 := { stood := { row := lifetimeDecodesRow, standIns := [], harness := (true, "b415d0d9cc8ef32e2c0447c2d72549c62f1b84545bba6bc8fba84b504e33ab64"), looks := true }, kinds := [], alts := [], laidByText := true, laidKinds := [.data, .data, .data], laidTests := true, laidLooks := .later }
def LifetimeDecodesCardSaid : Prop := Claim7.holds Tryd.pinned (.plain (OpenSpec.ofChange lifetimeDecodesSpec)) lifetimeDecodesCard

/-- THE TIED CARD OF 'watchwordlaw13.LifetimeTexts'. -/
def lifetimeTextsCard : Claim7 := { stood := { row := lifetimeTextsRow, standIns := [], harness := (true, "b415d0d9cc8ef32e2c0447c2d72549c62f1b84545bba6bc8fba84b504e33ab64"), looks := true }, kinds := [], alts := [], laidByText := true, laidKinds := [.data, .data, .data, .data, .sentinel, .sentinel, .pinned], laidTests := true, laidLooks := .later }
def LifetimeTextsCardSaid : Prop := Claim7.holds Tryd.pinned (.plain (OpenSpec.ofChange lifetimeTextsSpec)) lifetimeTextsCard

/-- THE SECOND FORM's CARD OF 'watchwordlaw13.LifetimeInitial'. -/
def lifetimeInitialUptoCard : Claim7 := { stood := { row := lifetimeInitialUptoRow, standIns := [], harness := (true, "b415d0d9cc8ef32e2c0447c2d72549c62f1b84545bba6bc8fba84b504e33ab64"), looks := true }, kinds := [], alts := [], laidByText := true, laidKinds := [.data, .data, .data], laidTests := true, laidLooks := .later }
def LifetimeInitialUptoCardSaid : Prop := Claim7.holds Tryd.pinned (.plain (OpenSpec.upto lifetimeInitialSpec)) lifetimeInitialUptoCard

/-- THE SECOND FORM's CARD OF 'watchwordlaw13.LifetimeDerives'. -/
def lifetimeDerivesUptoCard : Claim7 := { stood := { row := lifetimeDerivesUptoRow, standIns := [], harness := (true, "b415d0d9cc8ef32e2c0447c2d72549c62f1b84545bba6bc8fba84b504e33ab64"), looks := true }, kinds := [], alts := [], laidByText := true, laidKinds := [.data, .data, .data], laidTests := true, laidLooks := .later }
def LifetimeDerivesUptoCardSaid : Prop := Claim7.holds Tryd.pinned (.plain (OpenSpec.upto lifetimeDerivesSpec)) lifetimeDerivesUptoCard

/-- THE SECOND FORM's CARD OF 'watchwordlaw13.LifetimeRenews'. -/
def lifetimeRenewsUptoCard : Claim7 := { stood := { row := lifetimeRenewsUptoRow, standIns := [], harness := (true, "b415d0d9cc8ef32e2c0447c2d72549c62f1b84545bba6bc8fba84b504e33ab64"), looks := true }, kinds := [], alts := [], laidByText := true, laidKinds := [.data, .data, .data], laidTests := true, laidLooks := .later }
def LifetimeRenewsUptoCardSaid : Prop := Claim7.holds Tryd.pinned (.plain (OpenSpec.upto lifetimeRenewsSpec)) lifetimeRenewsUptoCard

/-- THE SECOND FORM's CARD OF 'watchwordlaw13.LifetimeHolds'. -/
def lifetimeHoldsUptoCard : Claim7 := { stood := { row := lifetimeHoldsUptoRow, standIns := [], harness := (true, "b415d0d9cc8ef32e2c0447c2d72549c62f1b84545bba6bc8fba84b504e33ab64"), looks := true }, kinds := [], alts := [], laidByText := true, laidKinds := [.data, .data, .data], laidTests := true, laidLooks := .later }
def LifetimeHoldsUptoCardSaid : Prop := Claim7.holds Tryd.pinned (.plain (OpenSpec.upto lifetimeHoldsSpec)) lifetimeHoldsUptoCard

/-- THE SECOND FORM's CARD OF 'watchwordlaw13.LifetimeWithin'. -/
def lifetimeWithinUptoCard : Claim7 := { stood := { row := lifetimeWithinUptoRow, standIns := [], harness := (true, "b415d0d9cc8ef32e2c0447c2d72549c62f1b84545bba6bc8fba84b504e33ab64"), looks := true }, kinds := [], alts := [], laidByText := true, laidKinds := [.data, .data, .data], laidTests := true, laidLooks := .later }
def LifetimeWithinUptoCardSaid : Prop := Claim7.holds Tryd.pinned (.plain (OpenSpec.upto lifetimeWithinSpec)) lifetimeWithinUptoCard

/-- THE SECOND FORM's CARD OF 'watchwordlaw13.LifetimeUses'. -/
def lifetimeUsesUptoCard : Claim7 := { stood := { row := lifetimeUsesUptoRow, standIns := [], harness := (true, "b415d0d9cc8ef32e2c0447c2d72549c62f1b84545bba6bc8fba84b504e33ab64"), looks := true }, kinds := [], alts := [], laidByText := true, laidKinds := [.data, .data, .data], laidTests := true, laidLooks := .later }
def LifetimeUsesUptoCardSaid : Prop := Claim7.holds Tryd.pinned (.plain (OpenSpec.upto lifetimeUsesSpec)) lifetimeUsesUptoCard

/-- THE SECOND FORM's CARD OF 'watchwordlaw13.LifetimeDecodes'. -/
def lifetimeDecodesUptoCard : Claim7 := { stood := { row := lifetimeDecodesUptoRow, standIns := [], harness := (true, "b415d0d9cc8ef32e2c0447c2d72549c62f1b84545bba6bc8fba84b504e33ab64"), looks := true }, kinds := [], alts := [], laidByText := true, laidKinds := [.data, .data, .data], laidTests := true, laidLooks := .later }
def LifetimeDecodesUptoCardSaid : Prop := Claim7.holds Tryd.pinned (.plain (OpenSpec.upto lifetimeDecodesSpec)) lifetimeDecodesUptoCard

/-- THE SECOND FORM's CARD OF 'watchwordlaw13.LifetimeTexts'. -/
def lifetimeTextsUptoCard : Claim7 := { stood := { row := lifetimeTextsUptoRow, standIns := [], harness := (true, "b415d0d9cc8ef32e2c0447c2d72549c62f1b84545bba6bc8fba84b504e33ab64"), looks := true }, kinds := [], alts := [], laidByText := true, laidKinds := [.data, .data, .data, .data, .sentinel, .sentinel, .pinned], laidTests := true, laidLooks := .later }
def LifetimeTextsUptoCardSaid : Prop := Claim7.holds Tryd.pinned (.plain (OpenSpec.upto lifetimeTextsSpec)) lifetimeTextsUptoCard
end Rows
end Go.Proofs.YtfgmmjpejlpdoaaDoor
