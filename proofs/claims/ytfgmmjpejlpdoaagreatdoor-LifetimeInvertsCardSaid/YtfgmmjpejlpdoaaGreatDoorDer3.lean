/- Integer and its kin. -/
import Derived.Test.YtfgmmjpejlpdoaaGreatDoorDer2
namespace Go.Proofs.YtfgmmjpejlpdoaaGreatDoor
open Go Go.RowKit

theorem element_at (ti : Int) (t : UInt8) (ht : ti = (t.toNat : Int)) (pv : Value) (ls : List (List UInt8)) (L : List UInt8) (hL : ls.flatten = L) (w : World) (hB : BSS w pv ls) :
    Calls Tryz.prog 43 #[.int .u8 ti, pv] w fun e w' => ∃ A c, e = .returned (.slice A (elem t L).length c) ∧ OB 5 w' w.heap.size (.slice A (elem t L).length c) (elem t L) ∧ Ext w w' := by
  subst ht; subst hL; exact (element_any t pv ls w hB).mono fun _ _ h => OB.ret h
theorem number_at (v : Int) (n : Nat) (hn : n ≤ 8) (w : World) :
    Calls Tryz.prog 44 #[.int .i64 v, .int .i64 (n : Int)] w fun e w' => ∃ A c, e = .returned (.slice A (beBytes v n).length c) ∧ OB 5 w' w.heap.size (.slice A (beBytes v n).length c) (beBytes v n) ∧ Ext w w' :=
  (number_any v n hn w).mono fun _ _ h => OB.ret h

end Go.Proofs.YtfgmmjpejlpdoaaGreatDoor
