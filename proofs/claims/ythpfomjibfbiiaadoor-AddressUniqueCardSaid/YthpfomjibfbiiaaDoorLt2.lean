/- Lifetimes: Renewable, Left, Within, the limits and wishes. -/
import Derived.Test.YthpfomjibfbiiaaDoorLt1
namespace Go.Proofs.YthpfomjibfbiiaaDoor
open Go Go.RowKit

end Go.Proofs.YthpfomjibfbiiaaDoor
