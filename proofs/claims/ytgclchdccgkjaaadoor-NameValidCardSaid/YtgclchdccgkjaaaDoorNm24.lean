/- Names: the program's Copy. -/
import Derived.Test.YtgclchdccgkjaaaDoorNm23
namespace Go.Proofs.YtgclchdccgkjaaaDoor
open Go Go.RowKit
set_option linter.unusedVariables false

set_option maxRecDepth 100000 in
set_option maxHeartbeats 1000000 in
theorem NCopy_at (A : Option Addr) (c : Nat) (ps : List ByteArray) (r : ByteArray) (hn : ps.length ≤ 1000) (w : World) (hR : RS w (.slice A ps.length c) (sv ps)) :
    Calls Tryd.prog 32 #[.agg #[.slice A ps.length c, .string r]] w fun e w' => ∃ A' c', e = .returned (.agg #[.slice A' ps.length c', .string r]) ∧ w'.ownsRow (w.heap.size + 2) 9 1 (.slice A' ps.length c') (sv ps).length (sv ps) ∧ Ext w w' := by
  have hT := heap_alloc_new w (.cells #[.slice A ps.length c, .string r] 24)
  have hU := heap_alloc_new (w.alloc (.cells #[.slice A ps.length c, .string r] 24)) (.cells #[.slice none 0 0, .string ⟨#[]⟩] 24)
  rw [World.size_alloc] at hU
  have x1 := (Ext.refl w).alloc (.cells #[.slice A ps.length c, .string r] 24)
  have x2 := (Ext.refl (w.alloc (.cells #[.slice A ps.length c, .string r] 24))).alloc (.cells #[.slice none 0 0, .string ⟨#[]⟩] 24)
  have hT2 := x2.heap hT
  have hx := x1.trans x2
  have hz : ((w.alloc (.cells #[.slice A ps.length c, .string r] 24)).alloc (.cells #[.slice none 0 0, .string ⟨#[]⟩] 24)).heap.size = w.heap.size + 2 := by simp
  obtain ⟨wb, hwb⟩ : ∃ wb, wb = (w.alloc (.cells #[.slice A ps.length c, .string r] 24)).alloc (.cells #[.slice none 0 0, .string ⟨#[]⟩] 24) := ⟨_, rfl⟩
  rw [← hwb] at hT2 hU hx hz
  have HT : Hid (PB wb w.heap.size (.slice A ps.length c) r) := Lib.hid hT2
  have HU : Hid (PB wb (w.heap.size + 1) (.slice none 0 0) ⟨#[]⟩) := Lib.hid hU
  have HXB := Lib.hid hx
  have HC := SClone_at A c ps hn wb (hR.ext hx)
  rw [hz] at HC
  have HCL := Lib.hid HC
  obtain ⟨q0, q1⟩ := HT.out.cells
  clear hT hT2 hU hx x1 x2 hR HC hz
  go_enter Tryd.func32, Tryd.ntmps32
  go_wp2_with fail
  rw [← hwb]
  clear hwb
  refine HCL.out.mono ?_
  rintro _ w1 ⟨A1, c1, rfl, how, hx1⟩
  have hT1 := HT.out.ext hx1; have hU1 := HU.out.ext hx1
  clear q0 q1
  obtain ⟨p0, p1⟩ := hT1.cells
  obtain ⟨v1, hv1⟩ : ∃ v1, Value.slice A1 ps.length c1 = v1 := ⟨_, rfl⟩
  have hT2 : PB (w1.setCell ⟨w.heap.size, 0, none⟩ v1) w.heap.size v1 r := by
    unfold PB at hT1 ⊢
    rw [heap_setCell_same w1 _ 0 _ _ _ hT1]; rfl
  have hU2 : PB (w1.setCell ⟨w.heap.size, 0, none⟩ v1) (w.heap.size + 1) (.slice none 0 0) ⟨#[]⟩ := heap_far (grown_set1 w1 w.heap.size v1) hU1 (by omega)
  have how2 := rs_set (u := v1) (i := 0) how (show w.heap.size < w.heap.size + 2 by omega)
  have hx2 := (HXB.out.trans hx1).setCell (p := ⟨w.heap.size, 0, none⟩) (Nat.le_refl _) v1
  have f0 : w1.frozen? ⟨w.heap.size, 0, none⟩ = false := frozen_of_row w1 _ 0 _ _ hT1
  obtain ⟨w2, hw2⟩ : ∃ w2, w1.setCell ⟨w.heap.size, 0, none⟩ v1 = w2 := ⟨_, rfl⟩
  rw [hw2] at hT2 hU2 how2 hx2
  rw [← hv1] at hw2 hT2
  obtain ⟨q0, q1⟩ := hT2.cells
  obtain ⟨z0, z1, y0, y1, WF, hWF, hxF, d0, d1⟩ := put_end (n := w.heap.size + 1) hU2 hx2 (.slice A1 ps.length c1) (.string r)
  have HWF := Lib.hid (show WF.ownsRow (w.heap.size + 2) 9 1 (.slice A1 ps.length c1) (sv ps).length (sv ps) from hWF ▸ rs_set (rs_set how2 (by omega)) (by omega))
  have HXF := Lib.hid hxF
  clear hxF how2 hx2 hU2 hT2 how hx1 hT1 hU1 hv1
  go_wp2_with fail
  refine bodyPost_ret (v := .agg #[.slice A1 ps.length c1, .string r]) (by simp [results, Tryd.results32, go_sem, d0, d1]; try rfl) rfl ?_
  exact ⟨_, _, rfl, HWF.out, HXF.out⟩
end Go.Proofs.YtgclchdccgkjaaaDoor
