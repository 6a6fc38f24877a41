/- Pc22. -/
import Derived.Test.YtnjmndofcpnmeaaGreatDoorPc9
import Derived.Test.YtnjmndofcpnmeaaGreatDoorPc2
import Derived.Test.YtnjmndofcpnmeaaGreatDoorPc21
import Derived.Test.YtnjmndofcpnmeaaGreatDoorPc3
namespace Go.Proofs.YtnjmndofcpnmeaaGreatDoor
open Go Go.RowKit
set_option linter.unusedVariables false
def c8 (G:List Nat):Array Value:=#[.int .i64 (G.getD 0 0:Nat),.int .i64 (G.getD 1 0:Nat),.int .i64 (G.getD 2 0:Nat),.int .i64 (G.getD 3 0:Nat),.int .i64 (G.getD 4 0:Nat),.int .i64 (G.getD 5 0:Nat),.int .i64 (G.getD 6 0:Nat),.int .i64 (G.getD 7 0:Nat)]
def DA (L:List UInt8)(v:Value)(_:World):Prop:=v=.string ⟨L.toArray⟩
end Go.Proofs.YtnjmndofcpnmeaaGreatDoor
