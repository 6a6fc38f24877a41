/-
  DERIVED. GIVEN WITH THE SEED: THE CARDS: each row of YtgfjmmdkdhodiaaGreatDoorRows.lean that lists a variable, with what it lists TIED to the program's text (the seventh form; the later family's looks); each row that meets fmt, with fmt's text TOLD by the authors' own Lean function (tested against real Go, not proved from fmt's source: count such statements apart). THE CARD IS WHAT COUNTS. Prove the row's statement (the work); the ties are given (YtgfjmmdkdhodiaaGreatDoorTie.lean); close each card by the builder's one call (the guide's Derived/Test/ToyasCard.lean, 'card_holds'). Laid BY PROGRAM, IN A SANDBOX (cutbox-door.mjs). By AI agents, Wed Nov 11 2026. No macro, syntax, notation, axiom, sorry.
-/
import Derived.Test.YtgfjmmdkdhodiaaGreatDoorRows
import GoSem.ClaimSeven
namespace Go.Proofs.YtgfjmmdkdhodiaaGreatDoor
namespace Rows

/-- THE TIED CARD OF 'watchwordlaw23.PolicyValid'. -/
def policyValidCard : Claim7 := { stood := { row := policyValidRow, standIns := [], harness := (true, "490cb2ace3a33a8846c74da6f232d1422442ac7e5477e8aa4b6ae9db44c8f483"), looks := true }, kinds := [], alts := [], laidByText := true, laidKinds := [.data, .data, .data, .data, .sentinel, .sentinel, .pinned], laidTests := true, laidLooks := .later }
def PolicyValidCardSaid : Prop := Claim7.holds Tryz.pinned (.plain (OpenSpec.ofChange policyValidSpec)) policyValidCard

/-- THE TIED CARD OF 'watchwordlaw23.PolicyChecks'. -/
def policyChecksCard : Claim7 := { stood := { row := policyChecksRow, standIns := [], harness := (true, "490cb2ace3a33a8846c74da6f232d1422442ac7e5477e8aa4b6ae9db44c8f483"), looks := true }, kinds := [], alts := [], laidByText := true, laidKinds := [.data, .data, .data, .data, .sentinel, .sentinel, .pinned], laidTests := true, laidLooks := .later }
def PolicyChecksCardSaid : Prop := Claim7.holds Tryz.pinned (.plain (OpenSpec.ofChange policyChecksSpec)) policyChecksCard

/-- THE TIED CARD OF 'watchwordlaw23.PolicyBroken'. -/
def policyBrokenCard : Claim7 := { stood := { row := policyBrokenRow, standIns := [], harness := (true, "490cb2ace3a33a8846c74da6f232d1422442ac7e5477e8aa4b6ae9db44c8f483"), looks := true }, kinds := [], alts := [], laidByText := true, laidKinds := [.data, .data, .data, .data, .sentinel, .sentinel, .pinned], laidTests := true, laidLooks := .later }
def PolicyBrokenCardSaid : Prop := Claim7.holds Tryz.pinned (.plain (OpenSpec.ofChange policyBrokenSpec)) policyBrokenCard

/-- THE TIED CARD OF 'watchwordlaw23.PolicyTimes'. -/
def policyTimesCard : Claim7 := { stood := { row := policyTimesRow, standIns := [], harness := (true, "490cb2ace3a33a8846c74da6f232d1422442ac7e5477e8aa4b6ae9db44c8f483"), looks := true }, kinds := [], alts := [], laidByText := true, laidKinds := [.data, .data, .data, .data, .sentinel, .sentinel, .pinned], laidTests := true, laidLooks := .later }
def PolicyTimesCardSaid : Prop := Claim7.holds Tryz.pinned (.plain (OpenSpec.ofChange policyTimesSpec)) policyTimesCard

/-- THE TIED CARD OF 'watchwordlaw23.PolicyTexts'. -/
def policyTextsCard : Claim7 := { stood := { row := policyTextsRow, standIns := [], harness := (true, "490cb2ace3a33a8846c74da6f232d1422442ac7e5477e8aa4b6ae9db44c8f483"), looks := true }, kinds := [], alts := [], laidByText := true, laidKinds := [.data, .data, .data, .data, .sentinel, .sentinel, .pinned], laidTests := true, laidLooks := .later }
def PolicyTextsCardSaid : Prop := Claim7.holds Tryz.pinned (.plain (OpenSpec.ofChange policyTextsSpec)) policyTextsCard

/-- THE TIED CARD OF 'watchwordlaw23.PolicyHolds'. -/
def policyHoldsCard : Claim7 := { stood := { row := policyHoldsRow, standIns := [], harness := (true, "490cb2ace3a33a8846c74da6f232d1422442ac7e5477e8aa4b6ae9db44c8f483"), looks := true }, kinds := [], alts := [], laidByText := true, laidKinds := [.data, .data, .data, .data, .sentinel, .sentinel, .pinned], laidTests := true, laidLooks := .later }
def PolicyHoldsCardSaid : Prop := Claim7.holds Tryz.pinned (.plain (OpenSpec.ofChange policyHoldsSpec)) policyHoldsCard

/-- THE SECOND FORM's CARD OF 'watchwordlaw23.PolicyValid'. -/
def policyValidUptoCard : Claim7 := { stood := { row := policyValidUptoRow, standIns := [], harness := (true, "490cb2ace3a33a8846c74da6f232d1422442ac7e5477e8aa4b6ae9db44c8f483"), looks := true }, kinds := [], alts := [], laidByText := true, laidKinds := [.data, .data, .data, .data, .sentinel, .sentinel, .pinned], laidTests := true, laidLooks := .later }
def PolicyValidUptoCardSaid : Prop := Claim7.holds Tryz.pinned (.plain (OpenSpec.upto policyValidSpec)) policyValidUptoCard

/-- THE SECOND FORM's CARD OF 'watchwordlaw23.PolicyChecks'. -/
def policyChecksUptoCard : Claim7 := { stood := { row := policyChecksUptoRow, standIns := [], harness := (true, "490cb2ace3a33a8846c74da6f232d1422442ac7e5477e8aa4b6ae9db44c8f483"), looks := true }, kinds := [], alts := [], laidByText := true, laidKinds := [.data, .data, .data, .data, .sentinel, .sentinel, .pinned], laidTests := true, laidLooks := .later }
def PolicyChecksUptoCardSaid : Prop := Claim7.holds Tryz.pinned (.plain (OpenSpec.upto policyChecksSpec)) policyChecksUptoCard

/-- THE SECOND FORM's CARD OF 'watchwordlaw23.PolicyBroken'. -/
def policyBrokenUptoCard : Claim7 := { stood := { row := policyBrokenUptoRow, standIns := [], harness := (true, "490cb2ace3a33a8846c74da6f232d1422442ac7e5477e8aa4b6ae9db44c8f483"), looks := true }, kinds := [], alts := [], laidByText := true, laidKinds := [.data, .data, .data, .data, .sentinel, .sentinel, .pinned], laidTests := true, laidLooks := .later }
def PolicyBrokenUptoCardSaid : Prop := Claim7.holds Tryz.pinned (.plain (OpenSpec.upto policyBrokenSpec)) policyBrokenUptoCard

/-- THE SECOND FORM's CARD OF 'watchwordlaw23.PolicyTimes'. -/
def policyTimesUptoCard : Claim7 := { stood := { row := policyTimesUptoRow, standIns := [], harness := (true, "490cb2ace3a33a8846c74da6f232d1422442ac7e5477e8aa4b6ae9db44c8f483"), looks := true }, kinds := [], alts := [], laidByText := true, laidKinds := [.data, .data, .data, .data, .sentinel, .sentinel, .pinned], laidTests := true, laidLooks := .later }
def PolicyTimesUptoCardSaid : Prop := Claim7.holds Tryz.pinned (.plain (OpenSpec.upto policyTimesSpec)) policyTimesUptoCard

/-- THE SECOND FORM's CARD OF 'watchwordlaw23.PolicyTexts'. -/
def policyTextsUptoCard : Claim7 := { stood := { row := policyTextsUptoRow, standIns := [], harness := (true, "490cb2ace3a33a8846c74da6f232d1422442ac7e5477e8aa4b6ae9db44c8f483"), looks := true }, kinds := [], alts := [], laidByText := true, laidKinds := [.data, .data, .data, .data, .sentinel, .sentinel, .pinned], laidTests := true, laidLooks := .later }
def PolicyTextsUptoCardSaid : Prop := Claim7.holds Tryz.pinned (.plain (OpenSpec.upto policyTextsSpec)) policyTextsUptoCard

/-- THE SECOND FORM's CARD OF 'watchwordlaw23.PolicyHolds'. -/
def policyHoldsUptoCard : Claim7 := { stood := { row := policyHoldsUptoRow, standIns := [], harness := (true, "490cb2ace3a33a8846c74da6f232d1422442ac7e5477e8aa4b6ae9db44c8f483"), looks := true }, kinds := [], alts := [], laidByText := true, laidKinds := [.data, .data, .data, .data, .sentinel, .sentinel, .pinned], laidTests := true, laidLooks := .later }
def PolicyHoldsUptoCardSaid : Prop := Claim7.holds Tryz.pinned (.plain (OpenSpec.upto policyHoldsSpec)) policyHoldsUptoCard
end Rows
end Go.Proofs.YtgfjmmdkdhodiaaGreatDoor
