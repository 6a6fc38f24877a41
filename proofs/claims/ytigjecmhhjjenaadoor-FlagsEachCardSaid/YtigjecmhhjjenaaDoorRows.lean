/-
  NARROWER THAN 'FOR EVERY INPUT', by the rows' own cells (each row's printed sentence says how): FlagsValid: laid · FlagsTexts: laid · FlagsEach: laid · FlagsInitial: laid · FlagsGrants: laid · FlagsHolds: laid · FlagsDecodes: laid · FlagsInverts: laid.
  DERIVED. THE GIVEN ROWS OF THIS SEAT. 8 by the template 'for every input the law returns true; each argument reads behind the call as it read before'; 0 by the template 'total and deterministic' (their statements: YtigjecmhhjjenaaDoorTotals.lean).
  GIVEN WITH THE SEED: the statements are not yours to turn. If you find one false, say at which input.
  Laid BY PROGRAM, IN A SANDBOX (cutbox-rows.mjs): the forced cells as the released guide's own fill.sh prints them over the translation f0234d8ead19dc54… (all of the seat's roots in one cut). By AI agents, Wed Nov 11 2026. No macro, syntax, notation, axiom, sorry.
-/
import Derived.Test.YtigjecmhhjjenaaDoorChecked
import GoSem.PinnedTables
import GoSem.Claim
import GoSem.ClaimJoined
import GoSem.ClaimMapViews
import Derived.JoinedTies
import Derived.KernelRfl
namespace Go.Proofs.YtigjecmhhjjenaaDoor
/- THE CELL 'sum', in the pinned program and in every row, IS THE sha256 OF THE DUMP (.gsa) THAT YtigjecmhhjjenaaDoorProg.lean LOADS. Nothing in Lean hashes anything: it is a label: what it is worth is what the hold of that sum in a sandbox is worth. -/
noncomputable def Tryd.pinned : Pinned := { name := "ytigjecmhhjjenaadoor", sum := "f0234d8ead19dc543e5d42e27a2c9e577182dbd0aff24fe2316fb76bd82cae2c", checked := Tryd.checked }
namespace Rows
def none {H : Type} : Left H := { results := [], args := [] }

/- WHAT THE LISTED PACKAGE-LEVEL VARIABLES READ AS WHEN THE CALL BEGINS. Each datum BY PROGRAM (the guide's laid-datum.mjs) off the statement by which the dump's own 'gosem.cut.vars' lays the variable. In a bare row this is a premise. The card (YtigjecmhhjjenaaDoorCards.lean) ties it to the program's text. -/
def laid_unicode_utf8_acceptRanges {H : Type} : DataW H := .agg [.agg [.lit (.int .u8 128), .lit (.int .u8 191)], .agg [.lit (.int .u8 160), .lit (.int .u8 191)], .agg [.lit (.int .u8 128), .lit (.int .u8 159)], .agg [.lit (.int .u8 144), .lit (.int .u8 191)], .agg [.lit (.int .u8 128), .lit (.int .u8 143)], .agg [.lit (.int .u8 0), .lit (.int .u8 0)], .agg [.lit (.int .u8 0), .lit (.int .u8 0)], .agg [.lit (.int .u8 0), .lit (.int .u8 0)], .agg [.lit (.int .u8 0), .lit (.int .u8 0)], .agg [.lit (.int .u8 0), .lit (.int .u8 0)], .agg [.lit (.int .u8 0), .lit (.int .u8 0)], .agg [.lit (.int .u8 0), .lit (.int .u8 0)], .agg [.lit (.int .u8 0), .lit (.int .u8 0)], .agg [.lit (.int .u8 0), .lit (.int .u8 0)], .agg [.lit (.int .u8 0), .lit (.int .u8 0)], .agg [.lit (.int .u8 0), .lit (.int .u8 0)]]
/-- One of Go's own tables, pinned by name: the form's constant. -/
def laid_unicode_utf8_first : DataW Unit := Go.Pinned.utf8First

/-- 'watchwordlaw14.FlagsValid': WHATEVER THE INPUT: true; the input reads as it did. -/
def flagsValidSpec : ChangeSpec := { name := "flagsValid", fn := fun _ => fun
  | [d1, d2] => { results := [.lit (.bool true)], args := [d1, d2] }
  | _ => none }
def flagsValidRow : OpenClaim := { program := "ytigjecmhhjjenaadoor", sum := "f0234d8ead19dc543e5d42e27a2c9e577182dbd0aff24fe2316fb76bd82cae2c", func := "watchword/watchwordlaw14.FlagsValid", spec := "flagsValid", inPlace := ["internal/bytealg.IndexByteString", "internal/bytealg.IndexString", "internal/abi.NoEscape", "internal/bytealg.MakeNoZero"], unfollowed := true, recurses := true, named := ["unicode/utf8.first", "unicode/utf8.acceptRanges", "internal/bytealg.MaxLen"], apart := false, laid := [("unicode/utf8.acceptRanges", laid_unicode_utf8_acceptRanges), ("unicode/utf8.first", laid_unicode_utf8_first)] }
def FlagsValidSaid : Prop := flagsValidRow.holds Tryd.pinned (OpenSpec.ofChange flagsValidSpec)

/-- ITS FALSE NEIGHBOUR: 'it returns false'. Refute it at one input. -/
def flagsValidWrong : ChangeSpec := { name := "flagsValid", fn := fun _ => fun
  | [d1, d2] => { results := [.lit (.bool false)], args := [d1, d2] }
  | _ => none }
def FlagsValidWrongFalsely : Prop := flagsValidRow.holds Tryd.pinned (OpenSpec.ofChange flagsValidWrong)

/-- 'watchwordlaw14.FlagsTexts': WHATEVER THE INPUT: true; the input reads as it did. -/
def flagsTextsSpec : ChangeSpec := { name := "flagsTexts", fn := fun _ => fun
  | [d1, d2] => { results := [.lit (.bool true)], args := [d1, d2] }
  | _ => none }
def flagsTextsRow : OpenClaim := { program := "ytigjecmhhjjenaadoor", sum := "f0234d8ead19dc543e5d42e27a2c9e577182dbd0aff24fe2316fb76bd82cae2c", func := "watchword/watchwordlaw14.FlagsTexts", spec := "flagsTexts", inPlace := ["internal/bytealg.IndexByteString", "internal/bytealg.IndexString", "internal/abi.NoEscape", "internal/bytealg.MakeNoZero"], unfollowed := true, recurses := true, named := ["unicode/utf8.first", "unicode/utf8.acceptRanges", "internal/bytealg.MaxLen"], apart := false, laid := [("unicode/utf8.acceptRanges", laid_unicode_utf8_acceptRanges), ("unicode/utf8.first", laid_unicode_utf8_first)] }
def FlagsTextsSaid : Prop := flagsTextsRow.holds Tryd.pinned (OpenSpec.ofChange flagsTextsSpec)

/-- ITS FALSE NEIGHBOUR: 'it returns false'. Refute it at one input. -/
def flagsTextsWrong : ChangeSpec := { name := "flagsTexts", fn := fun _ => fun
  | [d1, d2] => { results := [.lit (.bool false)], args := [d1, d2] }
  | _ => none }
def FlagsTextsWrongFalsely : Prop := flagsTextsRow.holds Tryd.pinned (OpenSpec.ofChange flagsTextsWrong)

/-- 'watchwordlaw14.FlagsEach': WHATEVER THE INPUT: true; the input reads as it did. -/
def flagsEachSpec : ChangeSpec := { name := "flagsEach", fn := fun _ => fun
  | [d1, d2] => { results := [.lit (.bool true)], args := [d1, d2] }
  | _ => none }
def flagsEachRow : OpenClaim := { program := "ytigjecmhhjjenaadoor", sum := "f0234d8ead19dc543e5d42e27a2c9e577182dbd0aff24fe2316fb76bd82cae2c", func := "watchword/watchwordlaw14.FlagsEach", spec := "flagsEach", inPlace := ["internal/bytealg.IndexByteString", "internal/bytealg.IndexString", "internal/abi.NoEscape", "internal/bytealg.MakeNoZero"], unfollowed := true, recurses := true, named := ["unicode/utf8.first", "unicode/utf8.acceptRanges", "internal/bytealg.MaxLen"], apart := false, laid := [("unicode/utf8.acceptRanges", laid_unicode_utf8_acceptRanges), ("unicode/utf8.first", laid_unicode_utf8_first)] }
def FlagsEachSaid : Prop := flagsEachRow.holds Tryd.pinned (OpenSpec.ofChange flagsEachSpec)

/-- ITS FALSE NEIGHBOUR: 'it returns false'. Refute it at one input. -/
def flagsEachWrong : ChangeSpec := { name := "flagsEach", fn := fun _ => fun
  | [d1, d2] => { results := [.lit (.bool false)], args := [d1, d2] }
  | _ => none }
def FlagsEachWrongFalsely : Prop := flagsEachRow.holds Tryd.pinned (OpenSpec.ofChange flagsEachWrong)

/-- 'watchwordlaw14.FlagsInitial': WHATEVER THE INPUT: true; the input reads as it did. -/
def flagsInitialSpec : ChangeSpec := { name := "flagsInitial", fn := fun _ => fun
  | [d1, d2, d3] => { results := [.lit (.bool true)], args := [d1, d2, d3] }
  | _ => none }
def flagsInitialRow : OpenClaim := { program := "ytigjecmhhjjenaadoor", sum := "f0234d8ead19dc543e5d42e27a2c9e577182dbd0aff24fe2316fb76bd82cae2c", func := "watchword/watchwordlaw14.FlagsInitial", spec := "flagsInitial", inPlace := ["internal/bytealg.IndexByteString", "internal/bytealg.IndexString", "internal/abi.NoEscape", "internal/bytealg.MakeNoZero"], unfollowed := true, recurses := true, named := ["unicode/utf8.first", "unicode/utf8.acceptRanges", "internal/bytealg.MaxLen"], apart := false, laid := [("unicode/utf8.acceptRanges", laid_unicode_utf8_acceptRanges), ("unicode/utf8.first", laid_unicode_utf8_first)] }
def FlagsInitialSaid : Prop := flagsInitialRow.holds Tryd.pinned (OpenSpec.ofChange flagsInitialSpec)

/-- ITS FALSE NEIGHBOUR: 'it returns false'. Refute it at one input. -/
def flagsInitialWrong : ChangeSpec := { name := "flagsInitial", fn := fun _ => fun
  | [d1, d2, d3] => { results := [.lit (.bool false)], args := [d1, d2, d3] }
  | _ => none }
def FlagsInitialWrongFalsely : Prop := flagsInitialRow.holds Tryd.pinned (OpenSpec.ofChange flagsInitialWrong)

/-- 'watchwordlaw14.FlagsGrants': WHATEVER THE INPUT: true; the input reads as it did. -/
def flagsGrantsSpec : ChangeSpec := { name := "flagsGrants", fn := fun _ => fun
  | [d1, d2, d3] => { results := [.lit (.bool true)], args := [d1, d2, d3] }
  | _ => none }
def flagsGrantsRow : OpenClaim := { program := "ytigjecmhhjjenaadoor", sum := "f0234d8ead19dc543e5d42e27a2c9e577182dbd0aff24fe2316fb76bd82cae2c", func := "watchword/watchwordlaw14.FlagsGrants", spec := "flagsGrants", inPlace := ["internal/bytealg.IndexByteString", "internal/bytealg.IndexString", "internal/abi.NoEscape", "internal/bytealg.MakeNoZero"], unfollowed := true, recurses := true, named := ["unicode/utf8.first", "unicode/utf8.acceptRanges", "internal/bytealg.MaxLen"], apart := false, laid := [("unicode/utf8.acceptRanges", laid_unicode_utf8_acceptRanges), ("unicode/utf8.first", laid_unicode_utf8_first)] }
def FlagsGrantsSaid : Prop := flagsGrantsRow.holds Tryd.pinned (OpenSpec.ofChange flagsGrantsSpec)

/-- ITS FALSE NEIGHBOUR: 'it returns false'. Refute it at one input. -/
def flagsGrantsWrong : ChangeSpec := { name := "flagsGrants", fn := fun _ => fun
  | [d1, d2, d3] => { results := [.lit (.bool false)], args := [d1, d2, d3] }
  | _ => none }
def FlagsGrantsWrongFalsely : Prop := flagsGrantsRow.holds Tryd.pinned (OpenSpec.ofChange flagsGrantsWrong)

/-- 'watchwordlaw14.FlagsHolds': WHATEVER THE INPUT: true; the input reads as it did. -/
def flagsHoldsSpec : ChangeSpec := { name := "flagsHolds", fn := fun _ => fun
  | [d1, d2, d3, d4, d5] => { results := [.lit (.bool true)], args := [d1, d2, d3, d4, d5] }
  | _ => none }
def flagsHoldsRow : OpenClaim := { program := "ytigjecmhhjjenaadoor", sum := "f0234d8ead19dc543e5d42e27a2c9e577182dbd0aff24fe2316fb76bd82cae2c", func := "watchword/watchwordlaw14.FlagsHolds", spec := "flagsHolds", inPlace := ["internal/bytealg.IndexByteString", "internal/bytealg.IndexString", "internal/abi.NoEscape", "internal/bytealg.MakeNoZero"], unfollowed := true, recurses := true, named := ["unicode/utf8.first", "unicode/utf8.acceptRanges", "internal/bytealg.MaxLen"], apart := false, laid := [("unicode/utf8.acceptRanges", laid_unicode_utf8_acceptRanges), ("unicode/utf8.first", laid_unicode_utf8_first)] }
def FlagsHoldsSaid : Prop := flagsHoldsRow.holds Tryd.pinned (OpenSpec.ofChange flagsHoldsSpec)

/-- ITS FALSE NEIGHBOUR: 'it returns false'. Refute it at one input. -/
def flagsHoldsWrong : ChangeSpec := { name := "flagsHolds", fn := fun _ => fun
  | [d1, d2, d3, d4, d5] => { results := [.lit (.bool false)], args := [d1, d2, d3, d4, d5] }
  | _ => none }
def FlagsHoldsWrongFalsely : Prop := flagsHoldsRow.holds Tryd.pinned (OpenSpec.ofChange flagsHoldsWrong)

/-- 'watchwordlaw14.FlagsDecodes': WHATEVER THE INPUT: true; the input reads as it did. -/
def flagsDecodesSpec : ChangeSpec := { name := "flagsDecodes", fn := fun _ => fun
  | [d1, d2] => { results := [.lit (.bool true)], args := [d1, d2] }
  | _ => none }
def flagsDecodesRow : OpenClaim := { program := "ytigjecmhhjjenaadoor", sum := "f0234d8ead19dc543e5d42e27a2c9e577182dbd0aff24fe2316fb76bd82cae2c", func := "watchword/watchwordlaw14.FlagsDecodes", spec := "flagsDecodes", inPlace := ["internal/bytealg.IndexByteString", "internal/bytealg.IndexString", "internal/abi.NoEscape", "internal/bytealg.MakeNoZero"], unfollowed := true, recurses := true, named := ["unicode/utf8.first", "unicode/utf8.acceptRanges", "internal/bytealg.MaxLen"], apart := false, laid := [("unicode/utf8.acceptRanges", laid_unicode_utf8_acceptRanges), ("unicode/utf8.first", laid_unicode_utf8_first)] }
def FlagsDecodesSaid : Prop := flagsDecodesRow.holds Tryd.pinned (OpenSpec.ofChange flagsDecodesSpec)

/-- ITS FALSE NEIGHBOUR: 'it returns false'. Refute it at one input. -/
def flagsDecodesWrong : ChangeSpec := { name := "flagsDecodes", fn := fun _ => fun
  | [d1, d2] => { results := [.lit (.bool false)], args := [d1, d2] }
  | _ => none }
def FlagsDecodesWrongFalsely : Prop := flagsDecodesRow.holds Tryd.pinned (OpenSpec.ofChange flagsDecodesWrong)

/-- 'watchwordlaw14.FlagsInverts': WHATEVER THE INPUT: true; the input reads as it did. -/
def flagsInvertsSpec : ChangeSpec := { name := "flagsInverts", fn := fun _ => fun
  | [d1, d2, d3] => { results := [.lit (.bool true)], args := [d1, d2, d3] }
  | _ => none }
def flagsInvertsRow : OpenClaim := { program := "ytigjecmhhjjenaadoor", sum := "f0234d8ead19dc543e5d42e27a2c9e577182dbd0aff24fe2316fb76bd82cae2c", func := "watchword/watchwordlaw14.FlagsInverts", spec := "flagsInverts", inPlace := ["internal/bytealg.IndexByteString", "internal/bytealg.IndexString", "internal/abi.NoEscape", "internal/bytealg.MakeNoZero"], unfollowed := true, recurses := true, named := ["unicode/utf8.first", "unicode/utf8.acceptRanges", "internal/bytealg.MaxLen"], apart := false, laid := [("unicode/utf8.acceptRanges", laid_unicode_utf8_acceptRanges), ("unicode/utf8.first", laid_unicode_utf8_first)] }
def FlagsInvertsSaid : Prop := flagsInvertsRow.holds Tryd.pinned (OpenSpec.ofChange flagsInvertsSpec)

/-- ITS FALSE NEIGHBOUR: 'it returns false'. Refute it at one input. -/
def flagsInvertsWrong : ChangeSpec := { name := "flagsInverts", fn := fun _ => fun
  | [d1, d2, d3] => { results := [.lit (.bool false)], args := [d1, d2, d3] }
  | _ => none }
def FlagsInvertsWrongFalsely : Prop := flagsInvertsRow.holds Tryd.pinned (OpenSpec.ofChange flagsInvertsWrong)

/- THE SECOND FORM. 'bulk': how many values and letters a reading holds, each counted each time it is reached (what is shared counts as often as it is met; a slice's spare places count too). A statement '..UptoSaid' is the law's where the arguments, and the package variables that the reading takes, are together of bulk at most 1048576: NARROWER than '..Said'. Prove '..Said' where nothing that the law and all that it calls make is longer than what came in: it says more and counts as full. Else prove '..UptoSaid'. A law counts once. -/
mutual
def uptoBulk {H : Type} : DataW H → Nat
  | .lit (.string bytes) => bytes.length + 1
  | .lit _ => 1
  | .nil => 1
  | .ptr d => uptoBulk d + 1
  | .slice elems spare => uptoBulkAll elems + uptoBulkAll spare + 1
  | .agg parts => uptoBulkAll parts + 1
  | .iface _ d => uptoBulk d + 1
  | .map entries => uptoBulkEntries entries + 1
  | .held _ => 1
def uptoBulkAll {H : Type} : List (DataW H) → Nat
  | [] => 0
  | d :: r => uptoBulk d + uptoBulkAll r
def uptoBulkEntries {H : Type} : List (Lit × DataW H) → Nat
  | [] => 0
  | x :: r => uptoBulkEntry x + uptoBulkEntries r
def uptoBulkEntry {H : Type} : Lit × DataW H → Nat
  | (.string bytes, d) => bytes.length + uptoBulk d + 1
  | (_, d) => uptoBulk d + 1
 end
def uptoSmall : (H : Type) → List (DataW H) → Bool := fun _ ds => decide (uptoBulkAll ds ≤ 1048576)
def OpenSpec.upto (s : _root_.Go.ChangeSpec) : _root_.Go.OpenSpec := { _root_.Go.OpenSpec.ofChange s with cond := some uptoSmall }

/-- 'watchwordlaw14.FlagsValid', WHERE WHAT IT READS IS OF BULK AT MOST 1048576: true; the input reads as it did. -/
def flagsValidUptoRow : OpenClaim := { program := "ytigjecmhhjjenaadoor", sum := "f0234d8ead19dc543e5d42e27a2c9e577182dbd0aff24fe2316fb76bd82cae2c", func := "watchword/watchwordlaw14.FlagsValid", spec := "flagsValid", inPlace := ["internal/bytealg.IndexByteString", "internal/bytealg.IndexString", "internal/abi.NoEscape", "internal/bytealg.MakeNoZero"], unfollowed := true, recurses := true, named := ["unicode/utf8.first", "unicode/utf8.acceptRanges", "internal/bytealg.MaxLen"], apart := false, laid := [("unicode/utf8.acceptRanges", laid_unicode_utf8_acceptRanges), ("unicode/utf8.first", laid_unicode_utf8_first)], narrowed := true }
def FlagsValidUptoSaid : Prop := flagsValidUptoRow.holds Tryd.pinned (OpenSpec.upto flagsValidSpec)

/-- 'watchwordlaw14.FlagsTexts', WHERE WHAT IT READS IS OF BULK AT MOST 1048576: true; the input reads as it did. -/
def flagsTextsUptoRow : OpenClaim := { program := "ytigjecmhhjjenaadoor", sum := "f0234d8ead19dc543e5d42e27a2c9e577182dbd0aff24fe2316fb76bd82cae2c", func := "watchword/watchwordlaw14.FlagsTexts", spec := "flagsTexts", inPlace := ["internal/bytealg.IndexByteString", "internal/bytealg.IndexString", "internal/abi.NoEscape", "internal/bytealg.MakeNoZero"], unfollowed := true, recurses := true, named := ["unicode/utf8.first", "unicode/utf8.acceptRanges", "internal/bytealg.MaxLen"], apart := false, laid := [("unicode/utf8.acceptRanges", laid_unicode_utf8_acceptRanges), ("unicode/utf8.first", laid_unicode_utf8_first)], narrowed := true }
def FlagsTextsUptoSaid : Prop := flagsTextsUptoRow.holds Tryd.pinned (OpenSpec.upto flagsTextsSpec)

/-- 'watchwordlaw14.FlagsEach', WHERE WHAT IT READS IS OF BULK AT MOST 1048576: true; the input reads as it did. -/
def flagsEachUptoRow : OpenClaim := { program := "ytigjecmhhjjenaadoor", sum := "f0234d8ead19dc543e5d42e27a2c9e577182dbd0aff24fe2316fb76bd82cae2c", func := "watchword/watchwordlaw14.FlagsEach", spec := "flagsEach", inPlace := ["internal/bytealg.IndexByteString", "internal/bytealg.IndexString", "internal/abi.NoEscape", "internal/bytealg.MakeNoZero"], unfollowed := true, recurses := true, named := ["unicode/utf8.first", "unicode/utf8.acceptRanges", "internal/bytealg.MaxLen"], apart := false, laid := [("unicode/utf8.acceptRanges", laid_unicode_utf8_acceptRanges), ("unicode/utf8.first", laid_unicode_utf8_first)], narrowed := true }
def FlagsEachUptoSaid : Prop := flagsEachUptoRow.holds Tryd.pinned (OpenSpec.upto flagsEachSpec)

/-- 'watchwordlaw14.FlagsInitial', WHERE WHAT IT READS IS OF BULK AT MOST 1048576: true; the input reads as it did. -/
def flagsInitialUptoRow : OpenClaim := { program := "ytigjecmhhjjenaadoor", sum := "f0234d8ead19dc543e5d42e27a2c9e577182dbd0aff24fe2316fb76bd82cae2c", func := "watchword/watchwordlaw14.FlagsInitial", spec := "flagsInitial", inPlace := ["internal/bytealg.IndexByteString", "internal/bytealg.IndexString", "internal/abi.NoEscape", "internal/bytealg.MakeNoZero"], unfollowed := true, recurses := true, named := ["unicode/utf8.first", "unicode/utf8.acceptRanges", "internal/bytealg.MaxLen"], apart := false, laid := [("unicode/utf8.acceptRanges", laid_unicode_utf8_acceptRanges), ("unicode/utf8.first", laid_unicode_utf8_first)], narrowed := true }
def FlagsInitialUptoSaid : Prop := flagsInitialUptoRow.holds Tryd.pinned (OpenSpec.upto flagsInitialSpec)

/-- 'watchwordlaw14.FlagsGrants', WHERE WHAT IT READS IS OF BULK AT MOST 1048576: true; the input reads as it did. -/
def flagsGrantsUptoRow : OpenClaim := { program := "ytigjecmhhjjenaadoor", sum := "f0234d8ead19dc543e5d42e27a2c9e577182dbd0aff24fe2316fb76bd82cae2c", func := "watchword/watchwordlaw14.FlagsGrants", spec := "flagsGrants", inPlace := ["internal/bytealg.IndexByteString", "internal/bytealg.IndexString", "internal/abi.NoEscape", "internal/bytealg.MakeNoZero"], unfollowed := true, recurses := true, named := ["unicode/utf8.first", "unicode/utf8.acceptRanges", "internal/bytealg.MaxLen"], apart := false, laid := [("unicode/utf8.acceptRanges", laid_unicode_utf8_acceptRanges), ("unicode/utf8.first", laid_unicode_utf8_first)], narrowed := true }
def FlagsGrantsUptoSaid : Prop := flagsGrantsUptoRow.holds Tryd.pinned (OpenSpec.upto flagsGrantsSpec)

/-- 'watchwordlaw14.FlagsHolds', WHERE WHAT IT READS IS OF BULK AT MOST 1048576: true; the input reads as it did. -/
def flagsHoldsUptoRow : OpenClaim := { program := "ytigjecmhhjjenaadoor", sum := "f0234d8ead19dc543e5d42e27a2c9e577182dbd0aff24fe2316fb76bd82cae2c", func := "watchword/watchwordlaw14.FlagsHolds", spec := "flagsHolds", inPlace := ["internal/bytealg.IndexByteString", "internal/bytealg.IndexString", "internal/abi.NoEscape", "internal/bytealg.MakeNoZero"], unfollowed := true, recurses := true, named := ["unicode/utf8.first", "unicode/utf8.acceptRanges", "internal/bytealg.MaxLen"], apart := false, laid := [("unicode/utf8.acceptRanges", laid_unicode_utf8_acceptRanges), ("unicode/utf8.first", laid_unicode_utf8_first)], narrowed := true }
def FlagsHoldsUptoSaid : Prop := flagsHoldsUptoRow.holds Tryd.pinned (OpenSpec.upto flagsHoldsSpec)

/-- 'watchwordlaw14.FlagsDecodes', WHERE WHAT IT READS IS OF BULK AT MOST 1048576: true; the input reads as it did. -/
def flagsDecodesUptoRow : OpenClaim := { program := "ytigjecmhhjjenaadoor", sum := "f0234d8ead19dc543e5d42e27a2c9e577182dbd0aff24fe2316fb76bd82cae2c", func := "watchword/watchwordlaw14.FlagsDecodes", spec := "flagsDecodes", inPlace := ["internal/bytealg.IndexByteString", "internal/bytealg.IndexString", "internal/abi.NoEscape", "internal/bytealg.MakeNoZero"], unfollowed := true, recurses := true, named := ["unicode/utf8.first", "unicode/utf8.acceptRanges", "internal/bytealg.MaxLen"], apart := false, laid := [("unicode/utf8.acceptRanges", laid_unicode_utf8_acceptRanges), ("unicode/utf8.first", laid_unicode_utf8_first)], narrowed := true }
def FlagsDecodesUptoSaid : Prop := flagsDecodesUptoRow.holds Tryd.pinned (OpenSpec.upto flagsDecodesSpec)

/-- 'watchwordlaw14.FlagsInverts', WHERE WHAT IT READS IS OF BULK AT MOST 1048576: true; the input reads as it did. -/
def flagsInvertsUptoRow : OpenClaim := { program := "ytigjecmhhjjenaadoor", sum := "f0234d8ead19dc543e5d42e27a2c9e577182dbd0aff24fe2316fb76bd82cae2c", func := "watchword/watchwordlaw14.FlagsInverts", spec := "flagsInverts", inPlace := ["internal/bytealg.IndexByteString", "internal/bytealg.IndexString", "internal/abi.NoEscape", "internal/bytealg.MakeNoZero"], unfollowed := true, recurses := true, named := ["unicode/utf8.first", "unicode/utf8.acceptRanges", "internal/bytealg.MaxLen"], apart := false, laid := [("unicode/utf8.acceptRanges", laid_unicode_utf8_acceptRanges), ("unicode/utf8.first", laid_unicode_utf8_first)], narrowed := true }
def FlagsInvertsUptoSaid : Prop := flagsInvertsUptoRow.holds Tryd.pinned (OpenSpec.upto flagsInvertsSpec)

end Rows
end Go.Proofs.YtigjecmhhjjenaaDoor
