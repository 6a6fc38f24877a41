/- Address: the reference's Parse: hosts. (wip/tools/genadr7.py printed this.) -/
import Derived.Test.YtnjmndofcpnmeaaGreatDoorTx35
namespace Go.Proofs.YtnjmndofcpnmeaaGreatDoor
open Go Go.RowKit
set_option linter.unusedVariables false

end Go.Proofs.YtnjmndofcpnmeaaGreatDoor
