/- Lifetimes: the rules of request.times. -/
import Derived.Test.YthpfomjibfbiiaaGreatDoorLt1
import Derived.Test.YthpfomjibfbiiaaGreatDoorRd
import Derived.OpenShut
import Derived.Deep.RegionHeld
namespace Go.Proofs.YthpfomjibfbiiaaGreatDoor
open Go Go.RowKit
set_option linter.unusedVariables false

section
variable {w w' : World} {T R : Nat} {a s e r f t n l m now skew : Int} {B : Option Addr}
end

def bp (B : Option Nat) : Option Addr := B.map fun b => ⟨b, 0, none⟩

theorem cell_apart {w : World} {T R : Nat} (hne : R ≠ T) (i k : Nat) (u v : Value) (h : w.cell? ⟨R, k, none⟩ = some v) : (w.setCell ⟨T, i, none⟩ u).cell? ⟨R, k, none⟩ = some v := by
  rw [World.cell?_setCell_far _ _ _ _ (fun h => hne h.symm)]; exact h

/-- The end: the rule without a base. -/
def endF (s l t : Int) : Int := if t = 0 then min (s + l) 1099511627776 else min (min (s + l) 1099511627776) t

/-- The renewal: what is written at last. -/
def renF (n m s e q : Int) : Int := if min (min (min n (s + m)) 1099511627776) q < e then 0 else min (min (min n (s + m)) 1099511627776) q

end Go.Proofs.YthpfomjibfbiiaaGreatDoor
