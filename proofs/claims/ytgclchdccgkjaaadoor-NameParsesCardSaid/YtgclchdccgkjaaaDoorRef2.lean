/- The reference's Integer. -/
import Derived.Test.YtgclchdccgkjaaaDoorRef1
namespace Go.Proofs.YtgclchdccgkjaaaDoor
open Go Go.RowKit

end Go.Proofs.YtgclchdccgkjaaaDoor
