/- structured at sealed strings. -/
import Derived.Test.YthpfomjibfbiiaaGreatDoorMg42
namespace Go.Proofs.YthpfomjibfbiiaaGreatDoor
open Go Go.RowKit

end Go.Proofs.YthpfomjibfbiiaaGreatDoor
