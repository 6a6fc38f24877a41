/- The reference's Integer. -/
import Derived.Test.YtfgmmjpejlpdoaaDoorRef1
namespace Go.Proofs.YtfgmmjpejlpdoaaDoor
open Go Go.RowKit

end Go.Proofs.YtfgmmjpejlpdoaaDoor
