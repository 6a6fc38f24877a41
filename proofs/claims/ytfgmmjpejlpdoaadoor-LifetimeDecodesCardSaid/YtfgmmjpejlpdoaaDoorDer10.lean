/- The methods of Reader: Integer. -/
import Derived.Test.YtfgmmjpejlpdoaaDoorDer9
namespace Go.Proofs.YtfgmmjpejlpdoaaDoor
open Go Go.RowKit

end Go.Proofs.YtfgmmjpejlpdoaaDoor
