/- Blocks of four integers. No program. -/
import Derived.Test.YtfgmmjpejlpdoaaDoorB3
namespace Go.Proofs.YtfgmmjpejlpdoaaDoor
open Go Go.RowKit

def B4 (T : TypeId) (w : World) (b : Nat) (x y z u : Int) : Prop := w.heap[b]? = some (.cells #[.int .i64 x, .int .i64 y, .int .i64 z, .int .i64 u] T (0, 0))
section
variable {T : TypeId} {w w' : World} {b : Nat} {x y z u : Int}
theorem B4.cells (h : B4 T w b x y z u) : w.cell? ⟨b, 0, none⟩ = some (.int .i64 x) ∧ w.cell? ⟨b, 1, none⟩ = some (.int .i64 y) ∧ w.cell? ⟨b, 2, none⟩ = some (.int .i64 z) ∧ w.cell? ⟨b, 3, none⟩ = some (.int .i64 u) :=
  ⟨by rw [cell_of_row w b 0 _ _ (0, 0) h]; rfl, by rw [cell_of_row w b 1 _ _ (0, 0) h]; rfl, by rw [cell_of_row w b 2 _ _ (0, 0) h]; rfl, by rw [cell_of_row w b 3 _ _ (0, 0) h]; rfl⟩
theorem B4.soft (h : B4 T w b x y z u) (k : Nat) : w.frozen? ⟨b, k, none⟩ = false := frozen_of_row w b k _ _ h
theorem B4.lt (h : B4 T w b x y z u) : b < w.heap.size := (Array.getElem?_eq_some_iff.1 h).1
theorem B4.ext (h : B4 T w b x y z u) (hx : Ext w w') : B4 T w' b x y z u := hx.heap h
theorem B4.far {g : Nat} (h : B4 T w b x y z u) (hb : w.grownBy w' (some g)) (hne : b ≠ g) : B4 T w' b x y z u := (hb.block b h.lt (by intro e; cases e; exact hne rfl)).trans h
theorem B4.set0 (h : B4 T w b x y z u) (v : Int) : B4 T (w.setCell ⟨b, 0, none⟩ (.int .i64 v)) b v y z u := by unfold B4; rw [heap_setCell_same w b 0 _ _ _ h]; rfl
theorem B4.set1 (h : B4 T w b x y z u) (v : Int) : B4 T (w.setCell ⟨b, 1, none⟩ (.int .i64 v)) b x v z u := by unfold B4; rw [heap_setCell_same w b 1 _ _ _ h]; rfl
theorem B4.set2 (h : B4 T w b x y z u) (v : Int) : B4 T (w.setCell ⟨b, 2, none⟩ (.int .i64 v)) b x y v u := by unfold B4; rw [heap_setCell_same w b 2 _ _ _ h]; rfl
theorem B4.set3 (h : B4 T w b x y z u) (v : Int) : B4 T (w.setCell ⟨b, 3, none⟩ (.int .i64 v)) b x y z v := by unfold B4; rw [heap_setCell_same w b 3 _ _ _ h]; rfl
theorem B4.new (T : TypeId) (w : World) (x y z u : Int) : B4 T (w.alloc (.cells #[.int .i64 x, .int .i64 y, .int .i64 z, .int .i64 u] T)) w.heap.size x y z u := heap_alloc_new w _
theorem B4.noU8 (hb : B4 T w b x y z u) : NoU8 w b := by
  intro q hq v hv
  unfold World.cell? at hv
  rw [hq, hb] at hv
  simp only at hv
  split at hv
  · cases hv
  · obtain ⟨hlt, he⟩ := Array.getElem?_eq_some_iff.1 hv
    have h3 : q.off = 0 ∨ q.off = 1 ∨ q.off = 2 ∨ q.off = 3 := by simp at hlt; omega
    rcases h3 with h | h | h | h <;> simp [h] at he
end
end Go.Proofs.YtfgmmjpejlpdoaaDoor
