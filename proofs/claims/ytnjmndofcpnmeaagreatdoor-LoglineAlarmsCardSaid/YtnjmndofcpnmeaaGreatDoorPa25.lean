/- Pa25. -/
import Derived.Test.YtnjmndofcpnmeaaGreatDoorPa3
import Derived.Test.YtnjmndofcpnmeaaGreatDoorPa0
import Derived.Deep.Cut
namespace Go.Proofs.YtnjmndofcpnmeaaGreatDoor
open Go Go.RowKit
set_option linter.unusedVariables false
end Go.Proofs.YtnjmndofcpnmeaaGreatDoor
