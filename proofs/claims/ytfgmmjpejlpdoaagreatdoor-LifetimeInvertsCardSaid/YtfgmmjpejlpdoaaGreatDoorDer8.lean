/- The closure of Reader.Integer. -/
import Derived.Test.YtfgmmjpejlpdoaaGreatDoorDer7
import Derived.Test.YtfgmmjpejlpdoaaGreatDoorPureAll
namespace Go.Proofs.YtfgmmjpejlpdoaaGreatDoor
open Go Go.RowKit

end Go.Proofs.YtfgmmjpejlpdoaaGreatDoor
