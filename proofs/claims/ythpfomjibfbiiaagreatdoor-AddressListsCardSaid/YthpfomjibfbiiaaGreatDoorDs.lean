/- Slices of data: pairs of an integer and bytes. -/
import Derived.Test.YthpfomjibfbiiaaGreatDoorOv
namespace Go.Proofs.YthpfomjibfbiiaaGreatDoor
open Go Go.RowKit
theorem cell_add1 (w : World) (a : Addr) : w.cell? ⟨a.block, a.off + 1, none⟩ = w.cell? (a.add 1) := by
  unfold Addr.add
  rw [if_neg (by decide)]
/-- A slice of api.Data. -/
def DS (w : World) (v : Value) (xs : List (Int × List UInt8)) : Prop :=
  ∃ A c, v = .slice A xs.length c ∧ xs.length ≤ c ∧ c ≤ maxLen ∧ ∀ i (h : i < xs.length), ∃ ad B d, A = some ad ∧
    w.cell? (ad.add (i * 2)) = some (.int .i64 xs[i].1) ∧ w.cell? (ad.add (i * 2 + 1)) = some (.slice B xs[i].2.length d) ∧ BS w (.slice B xs[i].2.length d) xs[i].2
theorem DS.ext {w w' : World} {v : Value} {xs : List (Int × List UInt8)} (h : DS w v xs) (hx : Ext w w') : DS w' v xs := by
  obtain ⟨A, c, h1, h2, h3, h4⟩ := h
  refine ⟨A, c, h1, h2, h3, fun i hi => ?_⟩
  obtain ⟨ad, B, d, e1, e2, e3, e4⟩ := h4 i hi
  exact ⟨ad, B, d, e1, hx.cell e2, hx.cell e3, e4.ext hx⟩
end Go.Proofs.YthpfomjibfbiiaaGreatDoor
