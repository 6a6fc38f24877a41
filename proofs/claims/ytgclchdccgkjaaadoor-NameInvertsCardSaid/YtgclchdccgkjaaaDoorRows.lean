/-
  NARROWER THAN 'FOR EVERY INPUT', by the rows' own cells (each row's printed sentence says how): NameValid: laid · NameParses: laid · NameEncodes: laid · NameTargets: laid · NameParents: laid · NameOrders: laid · NameInverts: laid.
  DERIVED. THE GIVEN ROWS OF THIS SEAT. 7 by the template 'for every input the law returns true; each argument reads behind the call as it read before'; 0 by the template 'total and deterministic' (their statements: YtgclchdccgkjaaaDoorTotals.lean).
  GIVEN WITH THE SEED: the statements are not yours to turn. If you find one false, say at which input.
  Laid BY PROGRAM, IN A SANDBOX (cutbox-rows.mjs): the forced cells as the released guide's own fill.sh prints them over the translation 44e94dcd5f1f5c1a… (all of the seat's roots in one cut). By AI agents, Wed Nov 11 2026. No macro, syntax, notation, axiom, sorry.
-/
import Derived.Test.YtgclchdccgkjaaaDoorChecked
import GoSem.PinnedTables
import GoSem.Claim
import GoSem.ClaimJoined
import GoSem.ClaimMapViews
import Derived.JoinedTies
import Derived.KernelRfl
namespace Go.Proofs.YtgclchdccgkjaaaDoor
/- THE CELL 'sum', in the pinned program and in every row, IS THE sha256 OF THE DUMP (.gsa) THAT YtgclchdccgkjaaaDoorProg.lean LOADS. Nothing in Lean hashes anything: it is a label: what it is worth is what the hold of that sum in a sandbox is worth. -/
noncomputable def Tryd.pinned : Pinned := { name := "ytgclchdccgkjaaadoor", sum := "44e94dcd5f1f5c1ac1cc812d5303a869de9b5b438f3c344049763756c34bdfc0", checked := Tryd.checked }
namespace Rows
def none {H : Type} : Left H := { results := [], args := [] }

/- WHAT THE LISTED PACKAGE-LEVEL VARIABLES READ AS WHEN THE CALL BEGINS. Each datum BY PROGRAM (the guide's laid-datum.mjs) off the statement by which the dump's own 'gosem.cut.vars' lays the variable. In a bare row this is a premise. The card (YtgclchdccgkjaaaDoorCards.lean) ties it to the program's text. -/
def laid_unicode_utf8_acceptRanges {H : Type} : DataW H := .agg [.agg [.lit (.int .u8 128), .lit (.int .u8 191)], .agg [.lit (.int .u8 160), .lit (.int .u8 191)], .agg [.lit (.int .u8 128), .lit (.int .u8 159)], .agg [.lit (.int .u8 144), .lit (.int .u8 191)], .agg [.lit (.int .u8 128), .lit (.int .u8 143)], .agg [.lit (.int .u8 0), .lit (.int .u8 0)], .agg [.lit (.int .u8 0), .lit (.int .u8 0)], .agg [.lit (.int .u8 0), .lit (.int .u8 0)], .agg [.lit (.int .u8 0), .lit (.int .u8 0)], .agg [.lit (.int .u8 0), .lit (.int .u8 0)], .agg [.lit (.int .u8 0), .lit (.int .u8 0)], .agg [.lit (.int .u8 0), .lit (.int .u8 0)], .agg [.lit (.int .u8 0), .lit (.int .u8 0)], .agg [.lit (.int .u8 0), .lit (.int .u8 0)], .agg [.lit (.int .u8 0), .lit (.int .u8 0)], .agg [.lit (.int .u8 0), .lit (.int .u8 0)]]
/-- One of Go's own tables, pinned by name: the form's constant. -/
def laid_unicode_utf8_first : DataW Unit := Go.Pinned.utf8First

/-- 'watchwordlaw12.NameValid': WHATEVER THE INPUT: true; the input reads as it did. -/
def nameValidSpec : ChangeSpec := { name := "nameValid", fn := fun _ => fun
  | [d1, d2] => { results := [.lit (.bool true)], args := [d1, d2] }
  | _ => none }
def nameValidRow : OpenClaim := { program := "ytgclchdccgkjaaadoor", sum := "44e94dcd5f1f5c1ac1cc812d5303a869de9b5b438f3c344049763756c34bdfc0", func := "watchword/watchwordlaw12.NameValid", spec := "nameValid", inPlace := ["internal/bytealg.IndexByteString", "internal/bytealg.IndexString"], unfollowed := true, recurses := true, named := ["unicode/utf8.first", "unicode/utf8.acceptRanges", "internal/bytealg.MaxLen"], apart := false, laid := [("unicode/utf8.acceptRanges", laid_unicode_utf8_acceptRanges), ("unicode/utf8.first", laid_unicode_utf8_first)] }
def NameValidSaid : Prop := nameValidRow.holds Tryd.pinned (OpenSpec.ofChange nameValidSpec)

/-- ITS FALSE NEIGHBOUR: 'it returns false'. Refute it at one input. -/
def nameValidWrong : ChangeSpec := { name := "nameValid", fn := fun _ => fun
  | [d1, d2] => { results := [.lit (.bool false)], args := [d1, d2] }
  | _ => none }
def NameValidWrongFalsely : Prop := nameValidRow.holds Tryd.pinned (OpenSpec.ofChange nameValidWrong)

/-- 'watchwordlaw12.NameParses': WHATEVER THE INPUT: true; the input reads as it did. -/
def nameParsesSpec : ChangeSpec := { name := "nameParses", fn := fun _ => fun
  | [d] => { results := [.lit (.bool true)], args := [d] }
  | _ => none }
def nameParsesRow : OpenClaim := { program := "ytgclchdccgkjaaadoor", sum := "44e94dcd5f1f5c1ac1cc812d5303a869de9b5b438f3c344049763756c34bdfc0", func := "watchword/watchwordlaw12.NameParses", spec := "nameParses", inPlace := ["internal/bytealg.IndexByteString", "internal/bytealg.IndexString"], unfollowed := true, recurses := true, named := ["unicode/utf8.first", "unicode/utf8.acceptRanges", "internal/bytealg.MaxLen"], apart := false, laid := [("unicode/utf8.acceptRanges", laid_unicode_utf8_acceptRanges), ("unicode/utf8.first", laid_unicode_utf8_first)] }
def NameParsesSaid : Prop := nameParsesRow.holds Tryd.pinned (OpenSpec.ofChange nameParsesSpec)

/-- ITS FALSE NEIGHBOUR: 'it returns false'. Refute it at one input. -/
def nameParsesWrong : ChangeSpec := { name := "nameParses", fn := fun _ => fun
  | [d] => { results := [.lit (.bool false)], args := [d] }
  | _ => none }
def NameParsesWrongFalsely : Prop := nameParsesRow.holds Tryd.pinned (OpenSpec.ofChange nameParsesWrong)

/-- 'watchwordlaw12.NameEncodes': WHATEVER THE INPUT: true; the input reads as it did. -/
def nameEncodesSpec : ChangeSpec := { name := "nameEncodes", fn := fun _ => fun
  | [d] => { results := [.lit (.bool true)], args := [d] }
  | _ => none }
def nameEncodesRow : OpenClaim := { program := "ytgclchdccgkjaaadoor", sum := "44e94dcd5f1f5c1ac1cc812d5303a869de9b5b438f3c344049763756c34bdfc0", func := "watchword/watchwordlaw12.NameEncodes", spec := "nameEncodes", inPlace := ["internal/bytealg.IndexByteString", "internal/bytealg.IndexString"], unfollowed := true, recurses := true, named := ["unicode/utf8.first", "unicode/utf8.acceptRanges", "internal/bytealg.MaxLen"], apart := false, laid := [("unicode/utf8.acceptRanges", laid_unicode_utf8_acceptRanges), ("unicode/utf8.first", laid_unicode_utf8_first)] }
def NameEncodesSaid : Prop := nameEncodesRow.holds Tryd.pinned (OpenSpec.ofChange nameEncodesSpec)

/-- ITS FALSE NEIGHBOUR: 'it returns false'. Refute it at one input. -/
def nameEncodesWrong : ChangeSpec := { name := "nameEncodes", fn := fun _ => fun
  | [d] => { results := [.lit (.bool false)], args := [d] }
  | _ => none }
def NameEncodesWrongFalsely : Prop := nameEncodesRow.holds Tryd.pinned (OpenSpec.ofChange nameEncodesWrong)

/-- 'watchwordlaw12.NameTargets': WHATEVER THE INPUT: true; the input reads as it did. -/
def nameTargetsSpec : ChangeSpec := { name := "nameTargets", fn := fun _ => fun
  | [d1, d2, d3] => { results := [.lit (.bool true)], args := [d1, d2, d3] }
  | _ => none }
def nameTargetsRow : OpenClaim := { program := "ytgclchdccgkjaaadoor", sum := "44e94dcd5f1f5c1ac1cc812d5303a869de9b5b438f3c344049763756c34bdfc0", func := "watchword/watchwordlaw12.NameTargets", spec := "nameTargets", inPlace := ["internal/bytealg.IndexByteString", "internal/bytealg.IndexString"], unfollowed := true, recurses := true, named := ["unicode/utf8.first", "unicode/utf8.acceptRanges", "internal/bytealg.MaxLen"], apart := false, laid := [("unicode/utf8.acceptRanges", laid_unicode_utf8_acceptRanges), ("unicode/utf8.first", laid_unicode_utf8_first)] }
def NameTargetsSaid : Prop := nameTargetsRow.holds Tryd.pinned (OpenSpec.ofChange nameTargetsSpec)

/-- ITS FALSE NEIGHBOUR: 'it returns false'. Refute it at one input. -/
def nameTargetsWrong : ChangeSpec := { name := "nameTargets", fn := fun _ => fun
  | [d1, d2, d3] => { results := [.lit (.bool false)], args := [d1, d2, d3] }
  | _ => none }
def NameTargetsWrongFalsely : Prop := nameTargetsRow.holds Tryd.pinned (OpenSpec.ofChange nameTargetsWrong)

/-- 'watchwordlaw12.NameParents': WHATEVER THE INPUT: true; the input reads as it did. -/
def nameParentsSpec : ChangeSpec := { name := "nameParents", fn := fun _ => fun
  | [d1, d2] => { results := [.lit (.bool true)], args := [d1, d2] }
  | _ => none }
def nameParentsRow : OpenClaim := { program := "ytgclchdccgkjaaadoor", sum := "44e94dcd5f1f5c1ac1cc812d5303a869de9b5b438f3c344049763756c34bdfc0", func := "watchword/watchwordlaw12.NameParents", spec := "nameParents", inPlace := ["internal/bytealg.IndexByteString", "internal/bytealg.IndexString"], unfollowed := true, recurses := true, named := ["unicode/utf8.first", "unicode/utf8.acceptRanges", "internal/bytealg.MaxLen"], apart := false, laid := [("unicode/utf8.acceptRanges", laid_unicode_utf8_acceptRanges), ("unicode/utf8.first", laid_unicode_utf8_first)] }
def NameParentsSaid : Prop := nameParentsRow.holds Tryd.pinned (OpenSpec.ofChange nameParentsSpec)

/-- ITS FALSE NEIGHBOUR: 'it returns false'. Refute it at one input. -/
def nameParentsWrong : ChangeSpec := { name := "nameParents", fn := fun _ => fun
  | [d1, d2] => { results := [.lit (.bool false)], args := [d1, d2] }
  | _ => none }
def NameParentsWrongFalsely : Prop := nameParentsRow.holds Tryd.pinned (OpenSpec.ofChange nameParentsWrong)

/-- 'watchwordlaw12.NameOrders': WHATEVER THE INPUT: true; the input reads as it did. -/
def nameOrdersSpec : ChangeSpec := { name := "nameOrders", fn := fun _ => fun
  | [d1, d2] => { results := [.lit (.bool true)], args := [d1, d2] }
  | _ => none }
def nameOrdersRow : OpenClaim := { program := "ytgclchdccgkjaaadoor", sum := "44e94dcd5f1f5c1ac1cc812d5303a869de9b5b438f3c344049763756c34bdfc0", func := "watchword/watchwordlaw12.NameOrders", spec := "nameOrders", inPlace := ["internal/bytealg.IndexByteString", "internal/bytealg.IndexString"], unfollowed := true, recurses := true, named := ["unicode/utf8.first", "unicode/utf8.acceptRanges", "internal/bytealg.MaxLen"], apart := false, laid := [("unicode/utf8.acceptRanges", laid_unicode_utf8_acceptRanges), ("unicode/utf8.first", laid_unicode_utf8_first)] }
def NameOrdersSaid : Prop := nameOrdersRow.holds Tryd.pinned (OpenSpec.ofChange nameOrdersSpec)

/-- ITS FALSE NEIGHBOUR: 'it returns false'. Refute it at one input. -/
def nameOrdersWrong : ChangeSpec := { name := "nameOrders", fn := fun _ => fun
  | [d1, d2] => { results := [.lit (.bool false)], args := [d1, d2] }
  | _ => none }
def NameOrdersWrongFalsely : Prop := nameOrdersRow.holds Tryd.pinned (OpenSpec.ofChange nameOrdersWrong)

/-- 'watchwordlaw12.NameInverts': WHATEVER THE INPUT: true; the input reads as it did. -/
def nameInvertsSpec : ChangeSpec := { name := "nameInverts", fn := fun _ => fun
  | [d1, d2, d3, d4, d5] => { results := [.lit (.bool true)], args := [d1, d2, d3, d4, d5] }
  | _ => none }
def nameInvertsRow : OpenClaim := { program := "ytgclchdccgkjaaadoor", sum := "44e94dcd5f1f5c1ac1cc812d5303a869de9b5b438f3c344049763756c34bdfc0", func := "watchword/watchwordlaw12.NameInverts", spec := "nameInverts", inPlace := ["internal/bytealg.IndexByteString", "internal/bytealg.IndexString"], unfollowed := true, recurses := true, named := ["unicode/utf8.first", "unicode/utf8.acceptRanges", "internal/bytealg.MaxLen"], apart := false, laid := [("unicode/utf8.acceptRanges", laid_unicode_utf8_acceptRanges), ("unicode/utf8.first", laid_unicode_utf8_first)] }
def NameInvertsSaid : Prop := nameInvertsRow.holds Tryd.pinned (OpenSpec.ofChange nameInvertsSpec)

/-- ITS FALSE NEIGHBOUR: 'it returns false'. Refute it at one input. -/
def nameInvertsWrong : ChangeSpec := { name := "nameInverts", fn := fun _ => fun
  | [d1, d2, d3, d4, d5] => { results := [.lit (.bool false)], args := [d1, d2, d3, d4, d5] }
  | _ => none }
def NameInvertsWrongFalsely : Prop := nameInvertsRow.holds Tryd.pinned (OpenSpec.ofChange nameInvertsWrong)

/- THE SECOND FORM. 'bulk': how many values and letters a reading holds, each counted each time it is reached (what is shared counts as often as it is met; a slice's spare places count too). A statement '..UptoSaid' is the law's where the arguments, and the package variables that the reading takes, are together of bulk at most 1048576: NARROWER than '..Said'. Prove '..Said' where nothing that the law and all that it calls make is longer than what came in: it says more and counts as full. Else prove '..UptoSaid'. A law counts once. -/
mutual
def uptoBulk {H : Type} : DataW H → Nat
  | .lit (.string bytes) => bytes.length + 1
  | .lit _ => 1
  | .nil => 1
  | .ptr d => uptoBulk d + 1
  | .slice elems spare => uptoBulkAll elems + uptoBulkAll spare + 1
  | .agg parts => uptoBulkAll parts + 1
  | .iface _ d => uptoBulk d + 1
  | .map entries => uptoBulkEntries entries + 1
  | .held _ => 1
def uptoBulkAll {H : Type} : List (DataW H) → Nat
  | [] => 0
  | d :: r => uptoBulk d + uptoBulkAll r
def uptoBulkEntries {H : Type} : List (Lit × DataW H) → Nat
  | [] => 0
  | x :: r => uptoBulkEntry x + uptoBulkEntries r
def uptoBulkEntry {H : Type} : Lit × DataW H → Nat
  | (.string bytes, d) => bytes.length + uptoBulk d + 1
  | (_, d) => uptoBulk d + 1
 end
def uptoSmall : (H : Type) → List (DataW H) → Bool := fun _ ds => decide (uptoBulkAll ds ≤ 1048576)
def OpenSpec.upto (s : _root_.Go.ChangeSpec) : _root_.Go.OpenSpec := { _root_.Go.OpenSpec.ofChange s with cond := some uptoSmall }

/-- 'watchwordlaw12.NameValid', WHERE WHAT IT READS IS OF BULK AT MOST 1048576: true; the input reads as it did. -/
def nameValidUptoRow : OpenClaim := { program := "ytgclchdccgkjaaadoor", sum := "44e94dcd5f1f5c1ac1cc812d5303a869de9b5b438f3c344049763756c34bdfc0", func := "watchword/watchwordlaw12.NameValid", spec := "nameValid", inPlace := ["internal/bytealg.IndexByteString", "internal/bytealg.IndexString"], unfollowed := true, recurses := true, named := ["unicode/utf8.first", "unicode/utf8.acceptRanges", "internal/bytealg.MaxLen"], apart := false, laid := [("unicode/utf8.acceptRanges", laid_unicode_utf8_acceptRanges), ("unicode/utf8.first", laid_unicode_utf8_first)], narrowed := true }
def NameValidUptoSaid : Prop := nameValidUptoRow.holds Tryd.pinned (OpenSpec.upto nameValidSpec)

/-- 'watchwordlaw12.NameParses', WHERE WHAT IT READS IS OF BULK AT MOST 1048576: true; the input reads as it did. -/
def nameParsesUptoRow : OpenClaim := { program := "ytgclchdccgkjaaadoor", sum := "44e94dcd5f1f5c1ac1cc812d5303a869de9b5b438f3c344049763756c34bdfc0", func := "watchword/watchwordlaw12.NameParses", spec := "nameParses", inPlace := ["internal/bytealg.IndexByteString", "internal/bytealg.IndexString"], unfollowed := true, recurses := true, named := ["unicode/utf8.first", "unicode/utf8.acceptRanges", "internal/bytealg.MaxLen"], apart := false, laid := [("unicode/utf8.acceptRanges", laid_unicode_utf8_acceptRanges), ("unicode/utf8.first", laid_unicode_utf8_first)], narrowed := true }
def NameParsesUptoSaid : Prop := nameParsesUptoRow.holds Tryd.pinned (OpenSpec.upto nameParsesSpec)

/-- 'watchwordlaw12.NameEncodes', WHERE WHAT IT READS IS OF BULK AT MOST 1048576: true; the input reads as it did. -/
def nameEncodesUptoRow : OpenClaim := { program := "ytgclchdccgkjaaadoor", sum := "44e94dcd5f1f5c1ac1cc812d5303a869de9b5b438f3c344049763756c34bdfc0", func := "watchword/watchwordlaw12.NameEncodes", spec := "nameEncodes", inPlace := ["internal/bytealg.IndexByteString", "internal/bytealg.IndexString"], unfollowed := true, recurses := true, named := ["unicode/utf8.first", "unicode/utf8.acceptRanges", "internal/bytealg.MaxLen"], apart := false, laid := [("unicode/utf8.acceptRanges", laid_unicode_utf8_acceptRanges), ("unicode/utf8.first", laid_unicode_utf8_first)], narrowed := true }
def NameEncodesUptoSaid : Prop := nameEncodesUptoRow.holds Tryd.pinned (OpenSpec.upto nameEncodesSpec)

/-- 'watchwordlaw12.NameTargets', WHERE WHAT IT READS IS OF BULK AT MOST 1048576: true; the input reads as it did. -/
def nameTargetsUptoRow : OpenClaim := { program := "ytgclchdccgkjaaadoor", sum := "44e94dcd5f1f5c1ac1cc812d5303a869de9b5b438f3c344049763756c34bdfc0", func := "watchword/watchwordlaw12.NameTargets", spec := "nameTargets", inPlace := ["internal/bytealg.IndexByteString", "internal/bytealg.IndexString"], unfollowed := true, recurses := true, named := ["unicode/utf8.first", "unicode/utf8.acceptRanges", "internal/bytealg.MaxLen"], apart := false, laid := [("unicode/utf8.acceptRanges", laid_unicode_utf8_acceptRanges), ("unicode/utf8.first", laid_unicode_utf8_first)], narrowed := true }
def NameTargetsUptoSaid : Prop := nameTargetsUptoRow.holds Tryd.pinned (OpenSpec.upto nameTargetsSpec)

/-- 'watchwordlaw12.NameParents', WHERE WHAT IT READS IS OF BULK AT MOST 1048576: true; the input reads as it did. -/
def nameParentsUptoRow : OpenClaim := { program := "ytgclchdccgkjaaadoor", sum := "44e94dcd5f1f5c1ac1cc812d5303a869de9b5b438f3c344049763756c34bdfc0", func := "watchword/watchwordlaw12.NameParents", spec := "nameParents", inPlace := ["internal/bytealg.IndexByteString", "internal/bytealg.IndexString"], unfollowed := true, recurses := true, named := ["unicode/utf8.first", "unicode/utf8.acceptRanges", "internal/bytealg.MaxLen"], apart := false, laid := [("unicode/utf8.acceptRanges", laid_unicode_utf8_acceptRanges), ("unicode/utf8.first", laid_unicode_utf8_first)], narrowed := true }
def NameParentsUptoSaid : Prop := nameParentsUptoRow.holds Tryd.pinned (OpenSpec.upto nameParentsSpec)

/-- 'watchwordlaw12.NameOrders', WHERE WHAT IT READS IS OF BULK AT MOST 1048576: true; the input reads as it did. -/
def nameOrdersUptoRow : OpenClaim := { program := "ytgclchdccgkjaaadoor", sum := "44e94dcd5f1f5c1ac1cc812d5303a869de9b5b438f3c344049763756c34bdfc0", func := "watchword/watchwordlaw12.NameOrders", spec := "nameOrders", inPlace := ["internal/bytealg.IndexByteString", "internal/bytealg.IndexString"], unfollowed := true, recurses := true, named := ["unicode/utf8.first", "unicode/utf8.acceptRanges", "internal/bytealg.MaxLen"], apart := false, laid := [("unicode/utf8.acceptRanges", laid_unicode_utf8_acceptRanges), ("unicode/utf8.first", laid_unicode_utf8_first)], narrowed := true }
def NameOrdersUptoSaid : Prop := nameOrdersUptoRow.holds Tryd.pinned (OpenSpec.upto nameOrdersSpec)

/-- 'watchwordlaw12.NameInverts', WHERE WHAT IT READS IS OF BULK AT MOST 1048576: true; the input reads as it did. -/
def nameInvertsUptoRow : OpenClaim := { program := "ytgclchdccgkjaaadoor", sum := "44e94dcd5f1f5c1ac1cc812d5303a869de9b5b438f3c344049763756c34bdfc0", func := "watchword/watchwordlaw12.NameInverts", spec := "nameInverts", inPlace := ["internal/bytealg.IndexByteString", "internal/bytealg.IndexString"], unfollowed := true, recurses := true, named := ["unicode/utf8.first", "unicode/utf8.acceptRanges", "internal/bytealg.MaxLen"], apart := false, laid := [("unicode/utf8.acceptRanges", laid_unicode_utf8_acceptRanges), ("unicode/utf8.first", laid_unicode_utf8_first)], narrowed := true }
def NameInvertsUptoSaid : Prop := nameInvertsUptoRow.holds Tryd.pinned (OpenSpec.upto nameInvertsSpec)

end Rows
end Go.Proofs.YtgclchdccgkjaaaDoor
