/- Flags: nothing is asked of the world at the call's beginning. -/
import Derived.Test.YtigjecmhhjjenaaDoorRowS
namespace Go.Proofs.YtigjecmhhjjenaaDoor
open Go Go.RowKit
/-- No condition. -/
def NoEnv (_ : World) : Prop := True
theorem noenv (w : World) : NoEnv w := trivial
end Go.Proofs.YtigjecmhhjjenaaDoor
