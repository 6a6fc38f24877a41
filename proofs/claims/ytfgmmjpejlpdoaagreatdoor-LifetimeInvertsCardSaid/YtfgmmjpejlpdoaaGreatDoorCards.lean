/-
  DERIVED. GIVEN WITH THE SEED: THE CARDS: each row of YtfgmmjpejlpdoaaGreatDoorRows.lean that lists a variable, with what it lists TIED to the program's text (the seventh form; the later family's looks); each row that meets fmt, with fmt's text TOLD by the authors' own Lean function (tested against real Go, not proved from fmt's source: count such statements apart). THE CARD IS WHAT COUNTS. Prove the row's statement (the work); the ties are given (YtfgmmjpejlpdoaaGreatDoorTie.lean); close each card by the builder's one call (the guide's Derived/Test/ToyasCard.lean, 'card_holds'). Laid BY PROGRAM, IN A SANDBOX (cutbox-door.mjs). By AI agents, Wed Nov 11 2026. No macro, syntax, notation, axiom, sorry.
-/
import Derived.Test.YtfgmmjpejlpdoaaGreatDoorRows
import GoSem.ClaimSeven
namespace Go.Proofs.YtfgmmjpejlpdoaaGreatDoor
namespace Rows

/-- THE TIED CARD OF 'watchwordlaw13.LifetimeInverts'. -/
def lifetimeInvertsCard : Claim7 := { stood := { row := lifetimeInvertsRow, standIns := [], harness := (true, "762d732649a14c32243e2046222f7fae7850d92b3eb4e501cd22c7caf44f75c8"), looks := true }, kinds := [], alts := [], laidByText := true, laidKinds := [.data, .data, .data, .data, .sentinel, .sentinel, .pinned], laidTests := true, laidLooks := .later }
def LifetimeInvertsCardSaid : Prop := Claim7.holds Tryz.pinned (.plain (OpenSpec.ofChange lifetimeInvertsSpec)) lifetimeInvertsCard

/-- THE SECOND FORM's CARD OF 'watchwordlaw13.LifetimeInverts'. -/
def lifetimeInvertsUptoCard : Claim7 := { stood := { row := lifetimeInvertsUptoRow, standIns := [], harness := (true, "762d732649a14c32243e2046222f7fae7850d92b3eb4e501cd22c7caf44f75c8"), looks := true }, kinds := [], alts := [], laidByText := true, laidKinds := [.data, .data, .data, .data, .sentinel, .sentinel, .pinned], laidTests := true, laidLooks := .later }
def LifetimeInvertsUptoCardSaid : Prop := Claim7.holds Tryz.pinned (.plain (OpenSpec.upto lifetimeInvertsSpec)) lifetimeInvertsUptoCard
end Rows
end Go.Proofs.YtfgmmjpejlpdoaaGreatDoor
