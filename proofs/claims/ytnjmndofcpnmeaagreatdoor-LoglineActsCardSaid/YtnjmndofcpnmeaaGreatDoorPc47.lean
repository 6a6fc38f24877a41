/- Pc47. -/
import Derived.Test.YtnjmndofcpnmeaaGreatDoorPc33
import Derived.Test.YtnjmndofcpnmeaaGreatDoorPc31
namespace Go.Proofs.YtnjmndofcpnmeaaGreatDoor
open Go Go.RowKit
set_option linter.unusedVariables false
end Go.Proofs.YtnjmndofcpnmeaaGreatDoor
