/- Integer and its kin. -/
import Derived.Test.YtgclchdccgkjaaaDoorDer2
namespace Go.Proofs.YtgclchdccgkjaaaDoor
open Go Go.RowKit

theorem element_at (ti : Int) (t : UInt8) (ht : ti = (t.toNat : Int)) (pv : Value) (ls : List (List UInt8)) (L : List UInt8) (hL : ls.flatten = L) (w : World) (hB : BSS w pv ls) :
    Calls Tryd.prog 59 #[.int .u8 ti, pv] w fun e w' => ∃ A c, e = .returned (.slice A (elem t L).length c) ∧ OB 5 w' w.heap.size (.slice A (elem t L).length c) (elem t L) ∧ Ext w w' := by
  subst ht; subst hL; exact (element_any t pv ls w hB).mono fun _ _ h => OB.ret h
end Go.Proofs.YtgclchdccgkjaaaDoor
