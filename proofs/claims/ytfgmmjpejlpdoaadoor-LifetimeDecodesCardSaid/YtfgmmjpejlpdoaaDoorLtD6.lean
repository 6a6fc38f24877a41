/- Lifetimes: Read where there is nothing to read. -/
import Derived.Test.YtfgmmjpejlpdoaaDoorLtD4
namespace Go.Proofs.YtfgmmjpejlpdoaaDoor
open Go Go.RowKit
set_option linter.unusedVariables false

set_option maxRecDepth 100000 in
theorem CopyNil_at (w : World) : Calls Tryd.prog 55 #[.pointer none] w fun e w' => e = .returned (.pointer none) ∧ w = w' := by
  go_enter Tryd.func55, Tryd.ntmps55
  go_wp2
  go_ret
  exact ⟨rfl, rfl⟩
set_option maxRecDepth 100000 in
theorem CopyZero_at (g : Nat) (x y : Value) (w : World) (h : B3 59 w g x y (.bool false)) : Calls Tryd.prog 55 #[.pointer (some ⟨g, 0, none⟩)] w fun e w' => e = .returned (.pointer none) ∧ w = w' := by
  obtain ⟨c0, c1, c2⟩ := h.cells
  clear h
  go_enter Tryd.func55, Tryd.ntmps55
  go_wp2
  go_ret
  exact ⟨rfl, rfl⟩
theorem none_end {w W2 : World} {n : Nat} {T3 : TypeId} (hx : Ext w W2) (hn : w.heap.size ≤ n) (ht : TB W2 (n + 1) 0 0 0 0) (he : B1 T3 W2 (n + 1 + 1) (.int .i64 0)) :
    ∃ WF, ((((W2.setCell ⟨n + 1, 0, none⟩ (.int .i64 0)).setCell ⟨n + 1, 1, none⟩ (.int .i64 0)).setCell ⟨n + 1, 2, none⟩ (.int .i64 0)).setCell ⟨n + 1, 3, none⟩ (.int .i64 0)).setCell ⟨n + 1 + 1, 0, none⟩ (.int .i64 1) = WF ∧ Ext w WF ∧
      WF.cell? ⟨n + 1, 0, none⟩ = some (.int .i64 0) ∧ WF.cell? ⟨n + 1, 1, none⟩ = some (.int .i64 0) ∧ WF.cell? ⟨n + 1, 2, none⟩ = some (.int .i64 0) ∧ WF.cell? ⟨n + 1, 3, none⟩ = some (.int .i64 0) ∧ WF.cell? ⟨n + 1 + 1, 0, none⟩ = some (.int .i64 1) ∧
      ((((W2.setCell ⟨n + 1, 0, none⟩ (.int .i64 0)).setCell ⟨n + 1, 1, none⟩ (.int .i64 0)).setCell ⟨n + 1, 2, none⟩ (.int .i64 0)).setCell ⟨n + 1, 3, none⟩ (.int .i64 0)).frozen? ⟨n + 1 + 1, 0, none⟩ = false ∧
      ((((W2.setCell ⟨n + 1, 0, none⟩ (.int .i64 0)).setCell ⟨n + 1, 1, none⟩ (.int .i64 0)).setCell ⟨n + 1, 2, none⟩ (.int .i64 0)).setCell ⟨n + 1, 3, none⟩ (.int .i64 0)).cell? ⟨n + 1 + 1, 0, none⟩ = some (.int .i64 0) := by
  have h4 := (((ht.set0 0).set1 0).set2 0).set3 0
  have hx4 := (((hx.setCell (p := ⟨n + 1, 0, none⟩) (show w.heap.size ≤ n + 1 by omega) (.int .i64 0)).setCell (p := ⟨n + 1, 1, none⟩) (show w.heap.size ≤ n + 1 by omega) (.int .i64 0)).setCell (p := ⟨n + 1, 2, none⟩) (show w.heap.size ≤ n + 1 by omega) (.int .i64 0)).setCell (p := ⟨n + 1, 3, none⟩) (show w.heap.size ≤ n + 1 by omega) (.int .i64 0)
  have g4 : W2.grownBy ((((W2.setCell ⟨n + 1, 0, none⟩ (.int .i64 0)).setCell ⟨n + 1, 1, none⟩ (.int .i64 0)).setCell ⟨n + 1, 2, none⟩ (.int .i64 0)).setCell ⟨n + 1, 3, none⟩ (.int .i64 0)) (some (n + 1)) := grown_set (grown_set (grown_set (grown_set (grown_refl _ _) 0 _) 1 _) 2 _) 3 _
  have e4 := he.far g4 (by omega)
  generalize (((W2.setCell ⟨n + 1, 0, none⟩ (.int .i64 0)).setCell ⟨n + 1, 1, none⟩ (.int .i64 0)).setCell ⟨n + 1, 2, none⟩ (.int .i64 0)).setCell ⟨n + 1, 3, none⟩ (.int .i64 0) = W4 at *
  have g5 : W4.grownBy (W4.setCell ⟨n + 1 + 1, 0, none⟩ (.int .i64 1)) (some (n + 1 + 1)) := grown_set (grown_refl _ _) 0 _
  obtain ⟨d0, d1, d2, d3⟩ := (h4.but (by omega) g5).cells
  exact ⟨_, rfl, hx4.setCell (p := ⟨n + 1 + 1, 0, none⟩) (show w.heap.size ≤ n + 1 + 1 by omega) _, d0, d1, d2, d3, (e4.set (.int .i64 1)).cell, e4.soft, e4.cell⟩
set_option maxRecDepth 100000 in
set_option maxHeartbeats 1000000 in
theorem ReadNone_at (p : Option Addr) (w : World) (hc : ∀ W : World, Ext w W → Calls Tryd.prog 55 #[.pointer p] W fun e w' => e = .returned (.pointer none) ∧ W = w') :
    Calls Tryd.prog 31 #[.pointer p] w fun en w' => en = .returned (.tuple #[.agg #[.int .i64 0, .int .i64 0, .int .i64 0, .int .i64 0], .int .i64 1]) ∧ Ext w w' := by
  obtain ⟨W3, hw3, hx3, hp3, ht3, he3, hs3⟩ := boxesR w (.pointer p)
  have cp := hp3.cell
  have HC := Lib.hid (hc W3 hx3); clear hc
  have hn2 : B1 50 (W3.alloc (.cells #[.pointer none] 50)) W3.heap.size (.pointer none) := B1.new _ W3 _
  have hxn : Ext W3 (W3.alloc (.cells #[.pointer none] 50)) := (Ext.refl _).alloc _
  obtain ⟨W2, hW2⟩ : ∃ W2, W3.alloc (.cells #[.pointer none] 50) = W2 := ⟨_, rfl⟩
  rw [hW2] at hn2 hxn
  have s2 := hn2.soft; have c2 := hn2.cell
  obtain ⟨W1, hW1, hx1, hc1⟩ : ∃ W1, W2.setCell ⟨W3.heap.size, 0, none⟩ (.pointer none) = W1 ∧ Ext w W1 ∧ B1 50 W1 W3.heap.size (.pointer none) := ⟨_, rfl, (hx3.trans hxn).setCell (p := ⟨W3.heap.size, 0, none⟩) (show w.heap.size ≤ W3.heap.size by omega) _, hn2.set _⟩
  have c1 := hc1.cell
  have g1 : W2.grownBy W1 (some W3.heap.size) := by rw [← hW1]; exact grown_set (grown_refl _ _) 0 _
  have ht1 : TB W1 (w.heap.size + 1) 0 0 0 0 := (ht3.ext hxn).but (by omega) g1
  have he1 := (he3.ext hxn).far g1 (by omega)
  obtain ⟨WF, hWF, hxF, d0, d1, d2, d3, d4, s4, s5⟩ := none_end hx1 (Nat.le_refl _) ht1 he1
  obtain ⟨q0, q1, q2, q3⟩ := ht1.cells
  have f0 := ht1.soft 0; have f1 := ht1.soft 1; have f2 := ht1.soft 2; have f3 := ht1.soft 3
  have HXF := Lib.hid hxF
  clear hp3 ht3 he3 hs3 hx3 hn2 hxn hx1 hc1 g1 ht1 he1 hxF
  go_enter_defers Tryd.func31, Tryd.ntmps31
  go_wp2_with fail
  refine HC.out.mono ?_
  rintro e w1 ⟨rfl, rfl⟩
  go_wp2_with fail
  exact ⟨.tuple #[.agg #[.int .i64 0, .int .i64 0, .int .i64 0, .int .i64 0], .int .i64 1], by simp [results, Tryd.results31, go_sem, d0, d1, d2, d3, d4], rfl, HXF.out⟩
end Go.Proofs.YtfgmmjpejlpdoaaDoor
