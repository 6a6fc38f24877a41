/- The methods of Reader: Integer. -/
import Derived.Test.YtfgmmjpejlpdoaaGreatDoorDer9
namespace Go.Proofs.YtfgmmjpejlpdoaaGreatDoor
open Go Go.RowKit

end Go.Proofs.YtfgmmjpejlpdoaaGreatDoor
