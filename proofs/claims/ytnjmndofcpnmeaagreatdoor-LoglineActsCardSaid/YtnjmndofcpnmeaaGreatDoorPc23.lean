/- Pc23. -/
import Derived.Test.YtnjmndofcpnmeaaGreatDoorPc3
import Derived.Test.YtnjmndofcpnmeaaGreatDoorPc0
import Derived.Deep.Cut
import Derived.Test.YtnjmndofcpnmeaaGreatDoorPc22
namespace Go.Proofs.YtnjmndofcpnmeaaGreatDoor
open Go Go.RowKit
set_option linter.unusedVariables false
end Go.Proofs.YtnjmndofcpnmeaaGreatDoor
