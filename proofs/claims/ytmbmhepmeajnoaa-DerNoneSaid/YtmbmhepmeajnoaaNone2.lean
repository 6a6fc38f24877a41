/- Without a reader: the structured ones. -/
import Derived.Test.YtmbmhepmeajnoaaNone
import Derived.Handy
namespace Go.Proofs.Ytmbmhepmeajnoaa
open Go Go.RowKit

set_option maxRecDepth 100000 in
theorem nostruct_Key (F v : Value) (w : World) (h : NoRd 62 w v) :
    Calls Try.prog 81 #[v, F] w fun e w' => e = .returned (.tuple #[.agg #[.int .i64 0, .int .i64 0, .slice none 0 0], .int .i64 1]) ∧ Ext w w' := by
  rcases h with rfl | ⟨g, rfl, hg⟩
  · go_enter Try.func81, Try.ntmps81
    go_wp2
    go_returns
    exact ⟨rfl, (((Ext.refl w).alloc _).alloc _).alloc _⟩
  · have hc2 : w.cell? ⟨g, 2, none⟩ = some (.bool false) := by rw [cell_of_row w g 2 _ _ (0, 0) hg]; rfl
    have hc3 := ((((Ext.refl w).alloc (.cells #[.pointer (some ⟨g, 0, none⟩)] 41)).alloc (.cells #[.int .i64 0, .int .i64 0, .slice none 0 0] 49)).alloc (.cells #[.int .i64 0] 43)).cell hc2
    go_enter Try.func81, Try.ntmps81
    go_wp2
    go_returns
    exact ⟨rfl, (((Ext.refl w).alloc _).alloc _).alloc _⟩

set_option maxRecDepth 100000 in
theorem NoKey_at (v : Value) (w : World) (h : NoRd 62 w v) :
    Calls Try.prog 47 #[v] w fun e w' => e = .returned (.tuple #[.agg #[.int .i64 0, .int .i64 0, .slice none 0 0], .int .i64 1]) ∧ Ext w w' := by
  go_enter Try.func47, Try.ntmps47
  go_wp2_with fail
  refine (nostruct_Key _ _ _ (h.ext ((Ext.refl w).alloc _))).mono ?_
  rintro e w1 ⟨rfl, hx1⟩
  have hg := hx1.heap (heap_alloc_new w (.cells #[.int .i64 0, .int .i64 0, .slice none 0 0] 49))
  have k0 : w1.cell? ⟨w.heap.size, 0, none⟩ = some (.int .i64 0) := by rw [cell_of_row _ _ 0 _ _ (0, 0) hg]; rfl
  have k1 : w1.cell? ⟨w.heap.size, 1, none⟩ = some (.int .i64 0) := by rw [cell_of_row _ _ 1 _ _ (0, 0) hg]; rfl
  have k2 : w1.cell? ⟨w.heap.size, 2, none⟩ = some (.slice none 0 0) := by rw [cell_of_row _ _ 2 _ _ (0, 0) hg]; rfl
  have f0 := frozen_of_row w1 w.heap.size 0 _ _ hg
  have f1 := frozen_of_row w1 w.heap.size 1 _ _ hg
  have f2 := frozen_of_row w1 w.heap.size 2 _ _ hg
  go_wp2_with fail
  have e0 := heap_setCell_same w1 w.heap.size 0 _ _ (.int .i64 0) hg
  have e1 := heap_setCell_same _ w.heap.size 1 _ _ (.int .i64 0) e0
  have e2 := heap_setCell_same _ w.heap.size 2 _ _ (.slice none 0 0) e1
  obtain ⟨W2, hW2⟩ : ∃ W2, W2 = ((w1.setCell ⟨w.heap.size, 0, none⟩ (.int .i64 0)).setCell ⟨w.heap.size, 1, none⟩ (.int .i64 0)).setCell ⟨w.heap.size, 2, none⟩ (.slice none 0 0) := ⟨_, rfl⟩
  rw [← hW2] at e2 ⊢
  have hx2 : Ext w W2 := by rw [hW2]; exact (((((Ext.refl w).alloc _).trans hx1).setCell (Nat.le_refl _) _).setCell (Nat.le_refl _) _).setCell (Nat.le_refl _) _
  have c0 : W2.cell? ⟨w.heap.size, 0, none⟩ = some (.int .i64 0) := by rw [cell_of_row _ _ 0 _ _ (0, 0) e2]; rfl
  have c1 : W2.cell? ⟨w.heap.size, 1, none⟩ = some (.int .i64 0) := by rw [cell_of_row _ _ 1 _ _ (0, 0) e2]; rfl
  have c2 : W2.cell? ⟨w.heap.size, 2, none⟩ = some (.slice none 0 0) := by rw [cell_of_row _ _ 2 _ _ (0, 0) e2]; rfl
  clear hW2 e0 e1 e2 k0 k1 k2 f0 f1 f2 hg
  (try simp only [Exit.inBlock, Exit.then])
  refine bodyPost_ret (by simp [results, Try.results47, go_sem, c0, c1, c2]; try rfl) rfl ?_
  exact ⟨rfl, hx2⟩

set_option maxRecDepth 100000 in
theorem nostruct_Sealed (F v : Value) (w : World) (h : NoRd 62 w v) :
    Calls Try.prog 84 #[v, F] w fun e w' => e = .returned (.tuple #[.agg #[.int .i64 0, .int .i64 0, .slice none 0 0], .int .i64 1]) ∧ Ext w w' := by
  rcases h with rfl | ⟨g, rfl, hg⟩
  · go_enter Try.func84, Try.ntmps84
    go_wp2
    go_returns
    exact ⟨rfl, (((Ext.refl w).alloc _).alloc _).alloc _⟩
  · have hc2 : w.cell? ⟨g, 2, none⟩ = some (.bool false) := by rw [cell_of_row w g 2 _ _ (0, 0) hg]; rfl
    have hc3 := ((((Ext.refl w).alloc (.cells #[.pointer (some ⟨g, 0, none⟩)] 41)).alloc (.cells #[.int .i64 0, .int .i64 0, .slice none 0 0] 50)).alloc (.cells #[.int .i64 0] 43)).cell hc2
    go_enter Try.func84, Try.ntmps84
    go_wp2
    go_returns
    exact ⟨rfl, (((Ext.refl w).alloc _).alloc _).alloc _⟩

set_option maxRecDepth 100000 in
theorem NoSealed_at (v : Value) (w : World) (h : NoRd 62 w v) :
    Calls Try.prog 48 #[v] w fun e w' => e = .returned (.tuple #[.agg #[.int .i64 0, .int .i64 0, .slice none 0 0], .int .i64 1]) ∧ Ext w w' := by
  go_enter Try.func48, Try.ntmps48
  go_wp2_with fail
  refine (nostruct_Sealed _ _ _ (h.ext ((Ext.refl w).alloc _))).mono ?_
  rintro e w1 ⟨rfl, hx1⟩
  have hg := hx1.heap (heap_alloc_new w (.cells #[.int .i64 0, .int .i64 0, .slice none 0 0] 50))
  have k0 : w1.cell? ⟨w.heap.size, 0, none⟩ = some (.int .i64 0) := by rw [cell_of_row _ _ 0 _ _ (0, 0) hg]; rfl
  have k1 : w1.cell? ⟨w.heap.size, 1, none⟩ = some (.int .i64 0) := by rw [cell_of_row _ _ 1 _ _ (0, 0) hg]; rfl
  have k2 : w1.cell? ⟨w.heap.size, 2, none⟩ = some (.slice none 0 0) := by rw [cell_of_row _ _ 2 _ _ (0, 0) hg]; rfl
  have f0 := frozen_of_row w1 w.heap.size 0 _ _ hg
  have f1 := frozen_of_row w1 w.heap.size 1 _ _ hg
  have f2 := frozen_of_row w1 w.heap.size 2 _ _ hg
  go_wp2_with fail
  have e0 := heap_setCell_same w1 w.heap.size 0 _ _ (.int .i64 0) hg
  have e1 := heap_setCell_same _ w.heap.size 1 _ _ (.int .i64 0) e0
  have e2 := heap_setCell_same _ w.heap.size 2 _ _ (.slice none 0 0) e1
  obtain ⟨W2, hW2⟩ : ∃ W2, W2 = ((w1.setCell ⟨w.heap.size, 0, none⟩ (.int .i64 0)).setCell ⟨w.heap.size, 1, none⟩ (.int .i64 0)).setCell ⟨w.heap.size, 2, none⟩ (.slice none 0 0) := ⟨_, rfl⟩
  rw [← hW2] at e2 ⊢
  have hx2 : Ext w W2 := by rw [hW2]; exact (((((Ext.refl w).alloc _).trans hx1).setCell (Nat.le_refl _) _).setCell (Nat.le_refl _) _).setCell (Nat.le_refl _) _
  have c0 : W2.cell? ⟨w.heap.size, 0, none⟩ = some (.int .i64 0) := by rw [cell_of_row _ _ 0 _ _ (0, 0) e2]; rfl
  have c1 : W2.cell? ⟨w.heap.size, 1, none⟩ = some (.int .i64 0) := by rw [cell_of_row _ _ 1 _ _ (0, 0) e2]; rfl
  have c2 : W2.cell? ⟨w.heap.size, 2, none⟩ = some (.slice none 0 0) := by rw [cell_of_row _ _ 2 _ _ (0, 0) e2]; rfl
  clear hW2 e0 e1 e2 k0 k1 k2 f0 f1 f2 hg
  (try simp only [Exit.inBlock, Exit.then])
  refine bodyPost_ret (by simp [results, Try.results48, go_sem, c0, c1, c2]; try rfl) rfl ?_
  exact ⟨rfl, hx2⟩

set_option maxRecDepth 100000 in
theorem nostruct_Data (F v : Value) (w : World) (h : NoRd 62 w v) :
    Calls Try.prog 86 #[v, F] w fun e w' => e = .returned (.tuple #[.slice none 0 0, .int .i64 1]) ∧ Ext w w' := by
  rcases h with rfl | ⟨g, rfl, hg⟩
  · go_enter Try.func86, Try.ntmps86
    go_wp2
    go_returns
    exact ⟨rfl, (((Ext.refl w).alloc _).alloc _).alloc _⟩
  · have hc2 : w.cell? ⟨g, 2, none⟩ = some (.bool false) := by rw [cell_of_row w g 2 _ _ (0, 0) hg]; rfl
    have hc3 := ((((Ext.refl w).alloc (.cells #[.pointer (some ⟨g, 0, none⟩)] 41)).alloc (.cells #[.slice none 0 0] 51)).alloc (.cells #[.int .i64 0] 43)).cell hc2
    go_enter Try.func86, Try.ntmps86
    go_wp2
    go_returns
    exact ⟨rfl, (((Ext.refl w).alloc _).alloc _).alloc _⟩

set_option maxRecDepth 100000 in
theorem NoData_at (v : Value) (w : World) (h : NoRd 62 w v) :
    Calls Try.prog 49 #[v] w fun e w' => e = .returned (.tuple #[.slice none 0 0, .int .i64 1]) ∧ Ext w w' := by
  go_enter Try.func49, Try.ntmps49
  go_wp2_with fail
  refine (nostruct_Data _ _ _ h).mono ?_
  rintro e w1 ⟨rfl, hx1⟩
  go_wp2_with fail
  go_returns
  exact ⟨rfl, hx1⟩
end Go.Proofs.Ytmbmhepmeajnoaa
