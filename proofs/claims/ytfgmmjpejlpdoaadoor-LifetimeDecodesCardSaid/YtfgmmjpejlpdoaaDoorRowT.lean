/-
  The table of powers that the Lifetime rows list: the door's own heap meets the condition; what it gives the walks.
-/
import Derived.Test.YtfgmmjpejlpdoaaDoorRows
import Derived.Test.YtfgmmjpejlpdoaaDoorLtT
import Derived.ProofKit
import Derived.LaidMore
import Derived.OpenShut
import Derived.Stop.Joined
import Derived.Stop.LaidErr
import Derived.Lib.LaidTab
namespace Go.Proofs.YtfgmmjpejlpdoaaDoor
open Go Go.RowKit Go.WideShapes Go.ChangeShapes Go.ChangeAt

theorem door_met (os : Os) (args : Array Value) : laidMetH Tryd.prog Rows.lifetimeInitialRow.laid ((World.doorLaid Tryd.prog 400 os).forCall (fun _ _ => 0) ⟨#[], args, []⟩).memory :=
  laidMetH_of_parts3 (fuel := 8) (laidMet_of_run' 8 (by kernel_rfl) (by kernel_rfl)) (by kernel_rfl) (by kernel_rfl)
theorem pow_of {W : World} (h : laidMetH Tryd.prog Rows.lifetimeInitialRow.laid W) : Pow W := by
  rw [MakeChecks.laidMetH_plain _ _ _ (by kernel_rfl)] at h
  have e : (Rows.laid_internal_strconv_uint64pow10 : DataW Unit) = Lib.tabData .u64 Lib.pow10Tab := by kernel_rfl
  have h2 := laidMet.tail (laidMet.tail h)
  rw [e] at h2
  obtain ⟨g, hg⟩ := Option.isSome_iff_exists.1 gPow
  have hgt : ((Tryd.prog.globalNamed "internal/strconv.uint64pow10").bind fun g => (Tryd.prog.globals[g]?).map (·.type)) = some 175 := by kernel_rfl
  rw [hg] at hgt
  exact Lib.tabIs_of_head hg hgt Tryd.underlying175 Tryd.underlying156 (by kernel_rfl) (by kernel_rfl) h2
end Go.Proofs.YtfgmmjpejlpdoaaDoor
