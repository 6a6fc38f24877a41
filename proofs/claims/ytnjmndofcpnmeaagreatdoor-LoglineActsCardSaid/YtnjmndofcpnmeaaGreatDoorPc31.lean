/- Pc31. -/
import Derived.Test.YtnjmndofcpnmeaaGreatDoorPc30
import Derived.Test.YtnjmndofcpnmeaaGreatDoorPc10
import Derived.Test.YtnjmndofcpnmeaaGreatDoorPc21
namespace Go.Proofs.YtnjmndofcpnmeaaGreatDoor
open Go Go.RowKit
set_option linter.unusedVariables false
theorem none_dec (ps:List ByteArray)(r:ByteArray):(decide (ps.length=0)&&r.toList.isEmpty)=noneN (dat ps) r.data.toList:=by
 rw [ByteArray.toList_eq]
 unfold noneN dat
 cases ps<;>simp
end Go.Proofs.YtnjmndofcpnmeaaGreatDoor
