/- Pa26. -/
import Derived.Test.YtnjmndofcpnmeaaGreatDoorPa24
import Derived.Test.YtnjmndofcpnmeaaGreatDoorPa25
namespace Go.Proofs.YtnjmndofcpnmeaaGreatDoor
open Go Go.RowKit
set_option linter.unusedVariables false
end Go.Proofs.YtnjmndofcpnmeaaGreatDoor
