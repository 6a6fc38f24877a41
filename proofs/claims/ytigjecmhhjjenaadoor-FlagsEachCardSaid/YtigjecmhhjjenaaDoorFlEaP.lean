/- Flags: what comes next after some bits. (wip/tools/genfleach.py printed this.) -/
import Derived.Test.YtigjecmhhjjenaaDoorFlR2
import Derived.Test.YtigjecmhhjjenaaDoorRangeN
import Derived.Test.YtigjecmhhjjenaaDoorFl4
namespace Go.Proofs.YtigjecmhhjjenaaDoor
open Go Go.RowKit
set_option linter.unusedVariables false

def nxP (pre : List Nat) : Nat := match pre.getLast? with | none => 0 | some k => k + 1
theorem nxP_snoc (pre : List Nat) (k : Nat) : nxP (pre ++ [k]) = k + 1 := by simp [nxP]
theorem nxP_le {pre : List Nat} {n : Nat} (h : ∀ j ∈ pre, j < n) : nxP pre ≤ n := by
  unfold nxP
  split
  · omega
  · rename_i k hk
    exact h k (List.mem_of_getLast? hk)
theorem bitsTo_lt {f : W32} {k j : Nat} (h : j ∈ bitsTo f k) : j < k := by
  unfold bitsTo at h
  rw [List.mem_filter, List.mem_range] at h
  exact h.1
theorem nxP_to (f : W32) (k : Nat) : nxP (bitsTo f k) ≤ k := nxP_le fun j hj => bitsTo_lt hj
theorem nxP_gap (f : W32) : ∀ (k j : Nat), nxP (bitsTo f k) ≤ j → j < k → isF f j = false
  | 0, j, _, h => by omega
  | k + 1, j, h0, h => by
    cases hk : isF f k with
    | true =>
      rw [bitsTo_yes hk, nxP_snoc] at h0
      omega
    | false =>
      rw [bitsTo_no hk] at h0
      rcases (show j < k ∨ j = k by omega) with hj | rfl
      · exact nxP_gap f k j h0 hj
      · exact hk
theorem nxP_all (f : W32) : nxP (bitsF f) ≤ 32 := nxP_to f 32
theorem nxP_part {f : W32} {pre rest : List Nat} (h : bitsF f = pre ++ rest) : nxP pre ≤ 32 := nxP_le fun j hj => bitsTo_lt (f := f) (k := 32) (by show j ∈ bitsF f; rw [h]; simp [hj])
theorem isF_of (f : W32) (k : Nat) (h : k < 32) : isF f k = ((nameAt k).isSome && f.getLsbD k) := by
  unfold isF
  have e : hasB f (bitW k) = f.getLsbD k := has_bit f k h
  rw [e]
theorem each_nil (cap : Array Value) (w : World) : (binOp .eql 39 (.func (.func 41) #[] cap) .nilFunc).run Tryd.prog w = .ok (.bool false) w := by kernel_rfl
end Go.Proofs.YtigjecmhhjjenaaDoor
