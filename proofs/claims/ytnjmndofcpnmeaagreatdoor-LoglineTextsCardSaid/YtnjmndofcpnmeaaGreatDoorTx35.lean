/- Texts laid together (wip/tools/automerge.py): LawAdTx, AdR6. -/
import Derived.Test.YtnjmndofcpnmeaaGreatDoorTx34
import Derived.Test.YtnjmndofcpnmeaaGreatDoorTx5
import Derived.Test.YtnjmndofcpnmeaaGreatDoorTx1
import Derived.Deep.Cut
namespace Go.Proofs.YtnjmndofcpnmeaaGreatDoor
open Go Go.RowKit
set_option linter.unusedVariables false

end Go.Proofs.YtnjmndofcpnmeaaGreatDoor
namespace Go.Proofs.YtnjmndofcpnmeaaGreatDoor
open Go Go.RowKit
set_option linter.unusedVariables false

end Go.Proofs.YtnjmndofcpnmeaaGreatDoor
