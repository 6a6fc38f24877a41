/- The closure of Reader.Integer. -/
import Derived.Test.YtfgmmjpejlpdoaaDoorDer7
import Derived.Test.YtfgmmjpejlpdoaaDoorPureAll
namespace Go.Proofs.YtfgmmjpejlpdoaaDoor
open Go Go.RowKit

end Go.Proofs.YtfgmmjpejlpdoaaDoor
