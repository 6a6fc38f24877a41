/-
  No cell of these rows narrows 'for every input' (looked for: loops, veiled, ifaces, maps, wideKeys, modest, calm, conditions, laid).
  DERIVED. THE GIVEN ROWS OF THIS SEAT. 7 by the template 'for every input the law returns true; each argument reads behind the call as it read before'; 0 by the template 'total and deterministic' (their statements: YtmbmhepmeajnoaaTotals.lean).
  GIVEN WITH THE SEED: the statements are not yours to turn. If you find one false, say at which input.
  Laid BY PROGRAM, IN A SANDBOX (cutbox-rows.mjs): the forced cells as the released guide's own fill.sh prints them over the translation 0c67495c2a83659f… (all of the seat's roots in one cut). By AI agents, Wed Nov 11 2026. No macro, syntax, notation, axiom, sorry.
-/
import Derived.Test.YtmbmhepmeajnoaaChecked
import GoSem.Claim
import GoSem.ClaimJoined
import GoSem.ClaimMapViews
import Derived.JoinedTies
import Derived.KernelRfl
namespace Go.Proofs.Ytmbmhepmeajnoaa
/- THE CELL 'sum', in the pinned program and in every row, IS THE sha256 OF THE DUMP (.gsa) THAT YtmbmhepmeajnoaaProg.lean LOADS. Nothing in Lean hashes anything: it is a label: what it is worth is what the hold of that sum in a sandbox is worth. -/
noncomputable def Try.pinned : Pinned := { name := "ytmbmhepmeajnoaa", sum := "0c67495c2a83659fddf4e10e69cce8ad41de710ea22afe8b6b8539c50c49a01c", checked := Try.checked }
namespace Rows
def none {H : Type} : Left H := { results := [], args := [] }

/-- 'watchwordlaw11.DerWraps': WHATEVER THE INPUT: true; the input reads as it did. -/
def derWrapsSpec : ChangeSpec := { name := "derWraps", fn := fun _ => fun
  | [d1, d2] => { results := [.lit (.bool true)], args := [d1, d2] }
  | _ => none }
def derWrapsRow : OpenClaim := { program := "ytmbmhepmeajnoaa", sum := "0c67495c2a83659fddf4e10e69cce8ad41de710ea22afe8b6b8539c50c49a01c", func := "watchword/watchwordlaw11.DerWraps", spec := "derWraps", unfollowed := true, recurses := true, apart := false }
def DerWrapsSaid : Prop := derWrapsRow.holds Try.pinned (OpenSpec.ofChange derWrapsSpec)

/-- ITS FALSE NEIGHBOUR: 'it returns false'. Refute it at one input. -/
def derWrapsWrong : ChangeSpec := { name := "derWraps", fn := fun _ => fun
  | [d1, d2] => { results := [.lit (.bool false)], args := [d1, d2] }
  | _ => none }
def DerWrapsWrongFalsely : Prop := derWrapsRow.holds Try.pinned (OpenSpec.ofChange derWrapsWrong)

/-- 'watchwordlaw11.DerWrites': WHATEVER THE INPUT: true; the input reads as it did. -/
def derWritesSpec : ChangeSpec := { name := "derWrites", fn := fun _ => fun
  | [d1, d2, d3, d4] => { results := [.lit (.bool true)], args := [d1, d2, d3, d4] }
  | _ => none }
def derWritesRow : OpenClaim := { program := "ytmbmhepmeajnoaa", sum := "0c67495c2a83659fddf4e10e69cce8ad41de710ea22afe8b6b8539c50c49a01c", func := "watchword/watchwordlaw11.DerWrites", spec := "derWrites", unfollowed := true, recurses := true, apart := false }
def DerWritesSaid : Prop := derWritesRow.holds Try.pinned (OpenSpec.ofChange derWritesSpec)

/-- ITS FALSE NEIGHBOUR: 'it returns false'. Refute it at one input. -/
def derWritesWrong : ChangeSpec := { name := "derWrites", fn := fun _ => fun
  | [d1, d2, d3, d4] => { results := [.lit (.bool false)], args := [d1, d2, d3, d4] }
  | _ => none }
def DerWritesWrongFalsely : Prop := derWritesRow.holds Try.pinned (OpenSpec.ofChange derWritesWrong)

/-- 'watchwordlaw11.DerElements': WHATEVER THE INPUT: true; the input reads as it did. -/
def derElementsSpec : ChangeSpec := { name := "derElements", fn := fun _ => fun
  | [d1, d2] => { results := [.lit (.bool true)], args := [d1, d2] }
  | _ => none }
def derElementsRow : OpenClaim := { program := "ytmbmhepmeajnoaa", sum := "0c67495c2a83659fddf4e10e69cce8ad41de710ea22afe8b6b8539c50c49a01c", func := "watchword/watchwordlaw11.DerElements", spec := "derElements", unfollowed := true, recurses := true, apart := false }
def DerElementsSaid : Prop := derElementsRow.holds Try.pinned (OpenSpec.ofChange derElementsSpec)

/-- ITS FALSE NEIGHBOUR: 'it returns false'. Refute it at one input. -/
def derElementsWrong : ChangeSpec := { name := "derElements", fn := fun _ => fun
  | [d1, d2] => { results := [.lit (.bool false)], args := [d1, d2] }
  | _ => none }
def DerElementsWrongFalsely : Prop := derElementsRow.holds Try.pinned (OpenSpec.ofChange derElementsWrong)

/-- 'watchwordlaw11.DerLengths': WHATEVER THE INPUT: true; the input reads as it did. -/
def derLengthsSpec : ChangeSpec := { name := "derLengths", fn := fun _ => fun
  | [d1, d2] => { results := [.lit (.bool true)], args := [d1, d2] }
  | _ => none }
def derLengthsRow : OpenClaim := { program := "ytmbmhepmeajnoaa", sum := "0c67495c2a83659fddf4e10e69cce8ad41de710ea22afe8b6b8539c50c49a01c", func := "watchword/watchwordlaw11.DerLengths", spec := "derLengths", unfollowed := true, recurses := true, apart := false }
def DerLengthsSaid : Prop := derLengthsRow.holds Try.pinned (OpenSpec.ofChange derLengthsSpec)

/-- ITS FALSE NEIGHBOUR: 'it returns false'. Refute it at one input. -/
def derLengthsWrong : ChangeSpec := { name := "derLengths", fn := fun _ => fun
  | [d1, d2] => { results := [.lit (.bool false)], args := [d1, d2] }
  | _ => none }
def DerLengthsWrongFalsely : Prop := derLengthsRow.holds Try.pinned (OpenSpec.ofChange derLengthsWrong)

/-- 'watchwordlaw11.DerRecords': WHATEVER THE INPUT: true; the input reads as it did. -/
def derRecordsSpec : ChangeSpec := { name := "derRecords", fn := fun _ => fun
  | [d1, d2, d3] => { results := [.lit (.bool true)], args := [d1, d2, d3] }
  | _ => none }
def derRecordsRow : OpenClaim := { program := "ytmbmhepmeajnoaa", sum := "0c67495c2a83659fddf4e10e69cce8ad41de710ea22afe8b6b8539c50c49a01c", func := "watchword/watchwordlaw11.DerRecords", spec := "derRecords", unfollowed := true, recurses := true, apart := false }
def DerRecordsSaid : Prop := derRecordsRow.holds Try.pinned (OpenSpec.ofChange derRecordsSpec)

/-- ITS FALSE NEIGHBOUR: 'it returns false'. Refute it at one input. -/
def derRecordsWrong : ChangeSpec := { name := "derRecords", fn := fun _ => fun
  | [d1, d2, d3] => { results := [.lit (.bool false)], args := [d1, d2, d3] }
  | _ => none }
def DerRecordsWrongFalsely : Prop := derRecordsRow.holds Try.pinned (OpenSpec.ofChange derRecordsWrong)

/-- 'watchwordlaw11.DerNone': WHATEVER THE INPUT: true; the input reads as it did. -/
def derNoneSpec : ChangeSpec := { name := "derNone", fn := fun _ => fun
  | [d] => { results := [.lit (.bool true)], args := [d] }
  | _ => none }
def derNoneRow : OpenClaim := { program := "ytmbmhepmeajnoaa", sum := "0c67495c2a83659fddf4e10e69cce8ad41de710ea22afe8b6b8539c50c49a01c", func := "watchword/watchwordlaw11.DerNone", spec := "derNone", unfollowed := true, recurses := true, apart := false }
def DerNoneSaid : Prop := derNoneRow.holds Try.pinned (OpenSpec.ofChange derNoneSpec)

/-- ITS FALSE NEIGHBOUR: 'it returns false'. Refute it at one input. -/
def derNoneWrong : ChangeSpec := { name := "derNone", fn := fun _ => fun
  | [d] => { results := [.lit (.bool false)], args := [d] }
  | _ => none }
def DerNoneWrongFalsely : Prop := derNoneRow.holds Try.pinned (OpenSpec.ofChange derNoneWrong)

/-- 'watchwordlaw11.DerInverts': WHATEVER THE INPUT: true; the input reads as it did. -/
def derInvertsSpec : ChangeSpec := { name := "derInverts", fn := fun _ => fun
  | [d1, d2, d3, d4, d5] => { results := [.lit (.bool true)], args := [d1, d2, d3, d4, d5] }
  | _ => none }
def derInvertsRow : OpenClaim := { program := "ytmbmhepmeajnoaa", sum := "0c67495c2a83659fddf4e10e69cce8ad41de710ea22afe8b6b8539c50c49a01c", func := "watchword/watchwordlaw11.DerInverts", spec := "derInverts", unfollowed := true, recurses := true, apart := false }
def DerInvertsSaid : Prop := derInvertsRow.holds Try.pinned (OpenSpec.ofChange derInvertsSpec)

/-- ITS FALSE NEIGHBOUR: 'it returns false'. Refute it at one input. -/
def derInvertsWrong : ChangeSpec := { name := "derInverts", fn := fun _ => fun
  | [d1, d2, d3, d4, d5] => { results := [.lit (.bool false)], args := [d1, d2, d3, d4, d5] }
  | _ => none }
def DerInvertsWrongFalsely : Prop := derInvertsRow.holds Try.pinned (OpenSpec.ofChange derInvertsWrong)

/- THE SECOND FORM. 'bulk': how many values and letters a reading holds, each counted each time it is reached (what is shared counts as often as it is met; a slice's spare places count too). A statement '..UptoSaid' is the law's where the arguments, and the package variables that the reading takes, are together of bulk at most 1048576: NARROWER than '..Said'. Prove '..Said' where nothing that the law and all that it calls make is longer than what came in: it says more and counts as full. Else prove '..UptoSaid'. A law counts once. -/
mutual
def uptoBulk {H : Type} : DataW H → Nat
  | .lit (.string bytes) => bytes.length + 1
  | .lit _ => 1
  | .nil => 1
  | .ptr d => uptoBulk d + 1
  | .slice elems spare => uptoBulkAll elems + uptoBulkAll spare + 1
  | .agg parts => uptoBulkAll parts + 1
  | .iface _ d => uptoBulk d + 1
  | .map entries => uptoBulkEntries entries + 1
  | .held _ => 1
def uptoBulkAll {H : Type} : List (DataW H) → Nat
  | [] => 0
  | d :: r => uptoBulk d + uptoBulkAll r
def uptoBulkEntries {H : Type} : List (Lit × DataW H) → Nat
  | [] => 0
  | x :: r => uptoBulkEntry x + uptoBulkEntries r
def uptoBulkEntry {H : Type} : Lit × DataW H → Nat
  | (.string bytes, d) => bytes.length + uptoBulk d + 1
  | (_, d) => uptoBulk d + 1
 end
def uptoSmall : (H : Type) → List (DataW H) → Bool := fun _ ds => decide (uptoBulkAll ds ≤ 1048576)
def OpenSpec.upto (s : _root_.Go.ChangeSpec) : _root_.Go.OpenSpec := { _root_.Go.OpenSpec.ofChange s with cond := some uptoSmall }

/-- 'watchwordlaw11.DerWraps', WHERE WHAT IT READS IS OF BULK AT MOST 1048576: true; the input reads as it did. -/
def derWrapsUptoRow : OpenClaim := { program := "ytmbmhepmeajnoaa", sum := "0c67495c2a83659fddf4e10e69cce8ad41de710ea22afe8b6b8539c50c49a01c", func := "watchword/watchwordlaw11.DerWraps", spec := "derWraps", unfollowed := true, recurses := true, apart := false, narrowed := true }
def DerWrapsUptoSaid : Prop := derWrapsUptoRow.holds Try.pinned (OpenSpec.upto derWrapsSpec)

/-- 'watchwordlaw11.DerWrites', WHERE WHAT IT READS IS OF BULK AT MOST 1048576: true; the input reads as it did. -/
def derWritesUptoRow : OpenClaim := { program := "ytmbmhepmeajnoaa", sum := "0c67495c2a83659fddf4e10e69cce8ad41de710ea22afe8b6b8539c50c49a01c", func := "watchword/watchwordlaw11.DerWrites", spec := "derWrites", unfollowed := true, recurses := true, apart := false, narrowed := true }
def DerWritesUptoSaid : Prop := derWritesUptoRow.holds Try.pinned (OpenSpec.upto derWritesSpec)

/-- 'watchwordlaw11.DerElements', WHERE WHAT IT READS IS OF BULK AT MOST 1048576: true; the input reads as it did. -/
def derElementsUptoRow : OpenClaim := { program := "ytmbmhepmeajnoaa", sum := "0c67495c2a83659fddf4e10e69cce8ad41de710ea22afe8b6b8539c50c49a01c", func := "watchword/watchwordlaw11.DerElements", spec := "derElements", unfollowed := true, recurses := true, apart := false, narrowed := true }
def DerElementsUptoSaid : Prop := derElementsUptoRow.holds Try.pinned (OpenSpec.upto derElementsSpec)

/-- 'watchwordlaw11.DerLengths', WHERE WHAT IT READS IS OF BULK AT MOST 1048576: true; the input reads as it did. -/
def derLengthsUptoRow : OpenClaim := { program := "ytmbmhepmeajnoaa", sum := "0c67495c2a83659fddf4e10e69cce8ad41de710ea22afe8b6b8539c50c49a01c", func := "watchword/watchwordlaw11.DerLengths", spec := "derLengths", unfollowed := true, recurses := true, apart := false, narrowed := true }
def DerLengthsUptoSaid : Prop := derLengthsUptoRow.holds Try.pinned (OpenSpec.upto derLengthsSpec)

/-- 'watchwordlaw11.DerRecords', WHERE WHAT IT READS IS OF BULK AT MOST 1048576: true; the input reads as it did. -/
def derRecordsUptoRow : OpenClaim := { program := "ytmbmhepmeajnoaa", sum := "0c67495c2a83659fddf4e10e69cce8ad41de710ea22afe8b6b8539c50c49a01c", func := "watchword/watchwordlaw11.DerRecords", spec := "derRecords", unfollowed := true, recurses := true, apart := false, narrowed := true }
def DerRecordsUptoSaid : Prop := derRecordsUptoRow.holds Try.pinned (OpenSpec.upto derRecordsSpec)

/-- 'watchwordlaw11.DerNone', WHERE WHAT IT READS IS OF BULK AT MOST 1048576: true; the input reads as it did. -/
def derNoneUptoRow : OpenClaim := { program := "ytmbmhepmeajnoaa", sum := "0c67495c2a83659fddf4e10e69cce8ad41de710ea22afe8b6b8539c50c49a01c", func := "watchword/watchwordlaw11.DerNone", spec := "derNone", unfollowed := true, recurses := true, apart := false, narrowed := true }
def DerNoneUptoSaid : Prop := derNoneUptoRow.holds Try.pinned (OpenSpec.upto derNoneSpec)

/-- 'watchwordlaw11.DerInverts', WHERE WHAT IT READS IS OF BULK AT MOST 1048576: true; the input reads as it did. -/
def derInvertsUptoRow : OpenClaim := { program := "ytmbmhepmeajnoaa", sum := "0c67495c2a83659fddf4e10e69cce8ad41de710ea22afe8b6b8539c50c49a01c", func := "watchword/watchwordlaw11.DerInverts", spec := "derInverts", unfollowed := true, recurses := true, apart := false, narrowed := true }
def DerInvertsUptoSaid : Prop := derInvertsUptoRow.holds Try.pinned (OpenSpec.upto derInvertsSpec)

end Rows
end Go.Proofs.Ytmbmhepmeajnoaa
