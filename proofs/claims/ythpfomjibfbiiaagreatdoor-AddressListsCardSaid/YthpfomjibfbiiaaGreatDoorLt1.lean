/- Lifetimes: the tests of the program. -/
import Derived.Test.YthpfomjibfbiiaaGreatDoorProg
import Derived.Test.YthpfomjibfbiiaaGreatDoorMem
import Derived.Test.YthpfomjibfbiiaaGreatDoorLtPure
import Derived.WalkLawsBesides
import Derived.WalkSpells
import Derived.Deep.LoopGhost
import Derived.Lib.Hide
import Derived.StillTailTactics
import Derived.BigQuiet
namespace Go.Proofs.YthpfomjibfbiiaaGreatDoor
open Go Go.RowKit

/-- Reads and quiet calls before a tail: the draw under its own name. -/
theorem still_tail {P : Program} {id : Nat} {Q : Exit → Act → World → Prop} {a : Act} {w : World} {l : List Oper} (n : Nat) (hm : P.follows .mixedOrders = true) (hB : Region.lexTailB .any l.toArray n = true)
    (h : wpStill P l.toArray w.drew (fun a' => wpList P l.toArray Q (l.drop n) a' w.drew) (l.take n) a) : (Code.region id l.toArray true).wp P Q a w := wp_region_still_tail n hm hB h

/-- Bools as values. -/
def blv (bs : List Bool) : List Value := bs.map Value.bool
theorem blv_length (bs : List Bool) : (blv bs).length = bs.length := by simp [blv]
theorem blv_get (bs : List Bool) (j : Nat) (h : j < bs.length) : (blv bs)[j]? = some (.bool bs[j]) := by simp [blv, h]

end Go.Proofs.YthpfomjibfbiiaaGreatDoor
