/- number: the last bytes of an integer. -/
import Derived.Test.YtgclchdccgkjaaaDoorDer1
namespace Go.Proofs.YtgclchdccgkjaaaDoor
open Go Go.RowKit

theorem bv_set (l : List UInt8) (j : Nat) (b : UInt8) : bv (l.set j b) = (bv l).set j (.int .u8 (b.toNat : Int)) := by simp [bv, List.map_set]
theorem bv_replicate (n : Nat) : bv (List.replicate n 0) = List.replicate n (.int .u8 0) := by simp [bv]

end Go.Proofs.YtgclchdccgkjaaaDoor
