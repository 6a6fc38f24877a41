/- Address: the reference's digits. (wip/tools/genadr6.py printed this.) -/
import Derived.Test.YtnjmndofcpnmeaaGreatDoorBa5
import Derived.Test.YtnjmndofcpnmeaaGreatDoorBa1
import Derived.Deep.Cut
namespace Go.Proofs.YtnjmndofcpnmeaaGreatDoor
open Go Go.RowKit
set_option linter.unusedVariables false

theorem drop_byte (s : ByteArray) (k : Nat) (h : k < s.size) : s.data.toList.drop k = s[k] :: s.data.toList.drop (k + 1) := by
  rw [List.drop_eq_getElem_cons (by rw [Array.length_toList]; exact h), Array.getElem_toList]; rfl
end Go.Proofs.YtnjmndofcpnmeaaGreatDoor
