/- Pa49. -/
import Derived.Test.YtnjmndofcpnmeaaGreatDoorPa28
import Derived.Test.YtnjmndofcpnmeaaGreatDoorPa48
import Derived.Test.YtnjmndofcpnmeaaGreatDoorPa22
import Derived.Deep.CutBlock
import Derived.Deep.DeepCutAuto
namespace Go.Proofs.YtnjmndofcpnmeaaGreatDoor
open Go Go.RowKit
set_option linter.unusedVariables false
def Apart (a b:Value):Prop:=∀ g,a.ownBlock=some g→b.ownBlock≠some g
def W6 (s:ByteArray)(w w1:World)(vb va vd:Value)(wc:World):Prop:=∃ (bf af:List Nat) (db:Bool) (A A':Option Addr) (c c':Nat),vb=.slice A bf.length c∧va=.slice A' af.length c'∧vd=.bool db∧bf.length+af.length≤9∧Hid (OwI wc (w.heap.size+2) (.slice A bf.length c) bf)∧Hid (OwI wc (w.heap.size+2) (.slice A' af.length c') af)∧Hid (Apart (.slice A bf.length c) (.slice A' af.length c'))∧Hid (rcnd s.data.toList=some (24,wbs (pad6 bf af db)))∧Hid (∀ x∈bf++af,x<65536)∧Hid (Ext w1 wc)
end Go.Proofs.YtnjmndofcpnmeaaGreatDoor
