/- Lifetimes: Renewable, Left, Within, the limits and wishes. -/
import Derived.Test.YthpfomjibfbiiaaGreatDoorLt1
namespace Go.Proofs.YthpfomjibfbiiaaGreatDoor
open Go Go.RowKit

end Go.Proofs.YthpfomjibfbiiaaGreatDoor
