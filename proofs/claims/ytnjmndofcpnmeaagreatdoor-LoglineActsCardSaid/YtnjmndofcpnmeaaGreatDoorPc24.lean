/- Pc24. -/
import Derived.Test.YtnjmndofcpnmeaaGreatDoorPc23
import Derived.Test.YtnjmndofcpnmeaaGreatDoorPc14
namespace Go.Proofs.YtnjmndofcpnmeaaGreatDoor
open Go Go.RowKit
set_option linter.unusedVariables false
theorem AB.lt {w:World}{g:Nat}{k:Int}{A:Option Addr}{n c:Nat}(h:AB w g k A n c):g<w.heap.size:=(Array.getElem?_eq_some_iff.1 h).1
theorem AB.own {w w':World}{g:Nat}{k:Int}{A:Option Addr}{n c B:Nat}{row:Option Nat}(h:AB w g k A n c)(hg:w.grownBy w' row)(hr:∀ j,row=some j→B≤j)(hlt:g<B):AB w' g k A n c:=by
 unfold AB at h ⊢
 rw [hg.block g (Array.getElem?_eq_some_iff.1 h).1 (by intro e;have:=hr g e.symm;omega)]
 exact h
end Go.Proofs.YtnjmndofcpnmeaaGreatDoor
