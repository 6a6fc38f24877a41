/- Blocks of one and of three cells, whatever their values. No program. -/
import Derived.Test.YthpfomjibfbiiaaGreatDoorRd
namespace Go.Proofs.YthpfomjibfbiiaaGreatDoor
open Go Go.RowKit

def B3 (T : TypeId) (w : World) (b : Nat) (x y z : Value) : Prop := w.heap[b]? = some (.cells #[x, y, z] T (0, 0))
def B1 (T : TypeId) (w : World) (b : Nat) (x : Value) : Prop := w.heap[b]? = some (.cells #[x] T (0, 0))
section
variable {T : TypeId} {w w' : World} {b : Nat} {x y z : Value}
theorem B3.cells (h : B3 T w b x y z) : w.cell? ⟨b, 0, none⟩ = some x ∧ w.cell? ⟨b, 1, none⟩ = some y ∧ w.cell? ⟨b, 2, none⟩ = some z :=
  ⟨by rw [cell_of_row w b 0 _ _ (0, 0) h]; rfl, by rw [cell_of_row w b 1 _ _ (0, 0) h]; rfl, by rw [cell_of_row w b 2 _ _ (0, 0) h]; rfl⟩
theorem B3.soft (h : B3 T w b x y z) (k : Nat) : w.frozen? ⟨b, k, none⟩ = false := frozen_of_row w b k _ _ h
theorem B3.lt (h : B3 T w b x y z) : b < w.heap.size := (Array.getElem?_eq_some_iff.1 h).1
theorem B3.ext (h : B3 T w b x y z) (hx : Ext w w') : B3 T w' b x y z := hx.heap h
theorem B3.far {g : Nat} (h : B3 T w b x y z) (hb : w.grownBy w' (some g)) (hne : b ≠ g) : B3 T w' b x y z := (hb.block b h.lt (by intro e; cases e; exact hne rfl)).trans h
theorem B3.set0 (h : B3 T w b x y z) (v : Value) : B3 T (w.setCell ⟨b, 0, none⟩ v) b v y z := by unfold B3; rw [heap_setCell_same w b 0 _ _ _ h]; rfl
theorem B3.set1 (h : B3 T w b x y z) (v : Value) : B3 T (w.setCell ⟨b, 1, none⟩ v) b x v z := by unfold B3; rw [heap_setCell_same w b 1 _ _ _ h]; rfl
theorem B3.set2 (h : B3 T w b x y z) (v : Value) : B3 T (w.setCell ⟨b, 2, none⟩ v) b x y v := by unfold B3; rw [heap_setCell_same w b 2 _ _ _ h]; rfl
theorem B3.new (T : TypeId) (w : World) (x y z : Value) : B3 T (w.alloc (.cells #[x, y, z] T)) w.heap.size x y z := heap_alloc_new w _
/-- What three stores leave, and the facts that the walk asks. -/
theorem B3.end_ (h : B3 T w b x y z) (u v t : Value) :
    (w.setCell ⟨b, 0, none⟩ u).cell? ⟨b, 0, none⟩ = some u ∧ ((w.setCell ⟨b, 0, none⟩ u).setCell ⟨b, 1, none⟩ v).cell? ⟨b, 1, none⟩ = some v ∧
    (((w.setCell ⟨b, 0, none⟩ u).setCell ⟨b, 1, none⟩ v).setCell ⟨b, 2, none⟩ t).cell? ⟨b, 2, none⟩ = some t :=
  ⟨(h.set0 u).cells.1, ((h.set0 u).set1 v).cells.2.1, (((h.set0 u).set1 v).set2 t).cells.2.2⟩
theorem B1.cell (h : B1 T w b x) : w.cell? ⟨b, 0, none⟩ = some x := by rw [cell_of_row w b 0 _ _ (0, 0) h]; rfl
theorem B1.soft (h : B1 T w b x) : w.frozen? ⟨b, 0, none⟩ = false := frozen_of_row w b 0 _ _ h
theorem B1.lt (h : B1 T w b x) : b < w.heap.size := (Array.getElem?_eq_some_iff.1 h).1
theorem B1.ext (h : B1 T w b x) (hx : Ext w w') : B1 T w' b x := hx.heap h
theorem B1.far {g : Nat} (h : B1 T w b x) (hb : w.grownBy w' (some g)) (hne : b ≠ g) : B1 T w' b x := (hb.block b h.lt (by intro e; cases e; exact hne rfl)).trans h
theorem B1.set (h : B1 T w b x) (v : Value) : B1 T (w.setCell ⟨b, 0, none⟩ v) b v := by unfold B1; rw [heap_setCell_same w b 0 _ _ _ h]; rfl
theorem B1.new (T : TypeId) (w : World) (x : Value) : B1 T (w.alloc (.cells #[x] T)) w.heap.size x := heap_alloc_new w _
theorem grown_set3 {w w1 : World} {g b : Nat} (h : w.grownBy w1 (some g)) (hb : w.heap.size ≤ b) (u v t : Value) : w.grownBy (((w1.setCell ⟨b, 0, none⟩ u).setCell ⟨b, 1, none⟩ v).setCell ⟨b, 2, none⟩ t) (some g) := by
  have h3 : w1.grownBy (((w1.setCell ⟨b, 0, none⟩ u).setCell ⟨b, 1, none⟩ v).setCell ⟨b, 2, none⟩ t) (some b) := grown_set (grown_set (grown_set (grown_refl w1 _) 0 u) 1 v) 2 t
  exact ⟨h3.os.trans h.os, h3.tape.trans h.tape, h3.output.trans h.output, Nat.le_trans h.size h3.size, fun j hj hne => (h3.block j (Nat.lt_of_lt_of_le hj h.size) (by intro e; cases e; omega)).trans (h.block j hj hne)⟩
theorem ext_set3 {w1 : World} {b : Nat} (w : World) (h : Ext w w1) (hb : w.heap.size ≤ b) (u v t : Value) : Ext w (((w1.setCell ⟨b, 0, none⟩ u).setCell ⟨b, 1, none⟩ v).setCell ⟨b, 2, none⟩ t) :=
  ((h.setCell hb _).setCell hb _).setCell hb _
end
theorem OB.off {e : TypeId} {w w' : World} {B : Nat} {v : Value} {b : List UInt8} {g : Nat} (h : OB e w B v b) (hg : w.grownBy w' (some g)) (hlt : g < B) : OB e w' B v b := by
  refine ⟨h.1, ?_⟩
  rcases h.2 with hh | ⟨g', cap, cur, hv, hb, hh, r⟩
  · exact .inl hh
  · exact .inr ⟨g', cap, cur, hv, hb, (hg.block g' (Array.getElem?_eq_some_iff.1 hh).1 (by intro e; cases e; omega)).trans hh, r⟩
end Go.Proofs.YthpfomjibfbiiaaGreatDoor
