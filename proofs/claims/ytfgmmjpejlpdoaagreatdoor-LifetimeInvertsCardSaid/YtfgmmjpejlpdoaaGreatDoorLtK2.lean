/- Lifetimes: the examples. (wip/tools/genltk.py printed this.) -/
import Derived.Test.YtfgmmjpejlpdoaaGreatDoorLtK
import Derived.Test.YtfgmmjpejlpdoaaGreatDoorEdge
namespace Go.Proofs.YtfgmmjpejlpdoaaGreatDoor
open Go Go.RowKit
set_option linter.unusedVariables false

theorem tb_set (w : World) (b A S E Q : Int) : True := trivial
theorem TB.put {w : World} {b : Nat} (h : TB w b 0 0 0 0) (A S E Q : Int) : TB ((((w.setCell ⟨b, 0, none⟩ (.int .i64 A)).setCell ⟨b, 1, none⟩ (.int .i64 S)).setCell ⟨b, 2, none⟩ (.int .i64 E)).setCell ⟨b, 3, none⟩ (.int .i64 Q)) b A S E Q :=
  (((h.set0 A).set1 S).set2 E).set3 Q

set_option maxRecDepth 100000 in
set_option maxHeartbeats 8000000 in
theorem known_at (w : World) (hp : Pow w) : Calls Tryz.prog 4 #[] w fun en w' => en = .returned (.bool true) ∧ Ext w w' := by
  have HP := Lib.hid hp; clear hp
  go_enter Tryz.func4, Tryz.ntmps4
  go_wp2_with fail
  obtain ⟨W0, hW0⟩ : ∃ W0, W0 = w.alloc (.cells #[.int .i64 0, .int .i64 0, .int .i64 0, .int .i64 0, .int .i64 120, .int .i64 500, .int .i64 55, .int .i64 0, .int .i64 0, .int .i64 56, .int .i64 0, .int .i64 0, .int .i64 0, .int .i64 50, .int .i64 0] 37) := ⟨_, rfl⟩
  have hrow : W0.heap[w.heap.size]? = some (.cells #[.int .i64 0, .int .i64 0, .int .i64 0, .int .i64 0, .int .i64 120, .int .i64 500, .int .i64 55, .int .i64 0, .int .i64 0, .int .i64 56, .int .i64 0, .int .i64 0, .int .i64 0, .int .i64 50, .int .i64 0] 37) := by rw [hW0]; exact heap_alloc_new w _
  have hx0 : Ext w W0 := hW0 ▸ (Ext.refl w).alloc _
  rw [← hW0]
  clear hW0
  have HROW := Lib.hid hrow; have HX := Lib.hid hx0
  clear hrow hx0
  go_loopw [27] (fun i wr => ∃ k : Nat, k ≤ 5 ∧ i = .int .i64 k ∧ Ext W0 wr) (fun i _ => 5 - (intOf i).toNat)
  case atStart => exact ⟨0, by omega, rfl, Ext.refl _⟩
  case round =>
    obtain ⟨k, hk, rfl, hx⟩ := hrel
    have hr := hx.heap HROW.out
    have HXR := Lib.hid hx; clear hx
    rcases (show k = 0 ∨ k = 1 ∨ k = 2 ∨ k = 3 ∨ k = 4 ∨ k = 5 by omega) with rfl | rfl | rfl | rfl | rfl | rfl
    · skip
      have q0 : wr.cell? ⟨w.heap.size, 0, none⟩ = some (.int .i64 0) := by rw [cell_of_row _ _ 0 _ _ (0, 0) hr]; rfl
      have q1 : wr.cell? ⟨w.heap.size, 1, none⟩ = some (.int .i64 0) := by rw [cell_of_row _ _ 1 _ _ (0, 0) hr]; rfl
      have q2 : wr.cell? ⟨w.heap.size, 2, none⟩ = some (.int .i64 0) := by rw [cell_of_row _ _ 2 _ _ (0, 0) hr]; rfl
      clear hr
      go_wp2_with fail
      obtain ⟨we, hwe⟩ : ∃ we, we = wr.alloc (.cells #[.int .i64 0, .int .i64 0, .int .i64 0] 37) := ⟨_, rfl⟩
      have hWB : WB we wr.heap.size 0 0 0 := by rw [hwe]; exact heap_alloc_new wr _
      have hxe : Ext wr we := hwe ▸ (Ext.refl wr).alloc _
      rw [← hwe]
      clear hwe q0 q1 q2
      have HWB := Lib.hid hWB; have HXE := Lib.hid (HXR.out.trans hxe)
      clear hWB hxe
      refine wp_region_ext_edge 7 7 5 (fun i v' w' => match i with | 1 => v' = .agg #[.int .i64 100, .int .i64 1000] | 2 => v' = .tuple #[.agg #[.int .i64 50, .int .i64 50, .int .i64 150, .int .i64 0], .int .i64 0] | 6 => ∃ b, v' = .pointer (some ⟨b, 0, none⟩) ∧ w'.heap[b]? = some (.cells #[.int .i64 0, .int .i64 0, .int .i64 0, .int .i64 0] 23 (0, 0)) ∧ we.heap.size ≤ b | _ => False) (by kernel_rfl) (by kernel_rfl) (by kernel_rfl) ?_
      simp only [withEdge, List.getElem?_toArray, List.getElem?_cons_succ, List.getElem?_cons_zero, List.setIfInBounds_toArray, List.set_cons_succ, List.set_cons_zero, List.push_toArray, List.cons_append, List.nil_append, List.toList_toArray, List.take_succ_cons, List.take_zero, List.drop_succ_cons, List.drop_zero]
      refine wpE_op rfl rfl (fun w' hw' K' hK' => ?_)
      have hE := hw'.1
      obtain ⟨q0, q1, q2⟩ := (HWB.out.ext ((Ext.drew we).trans hE)).cells
      go_step
      refine hK' _ ⟨_, rfl⟩ ?_
      clear hK' K' q0 q1 q2 hE hw' w'
      refine wpE_call 34 rfl (by simp) rfl (fun w' hw' K' hK' => ?_) ?_
      · have hE := hw'.1
        go_step
        refine (limits_at w').mono ?_
        rintro _ w2 ⟨rfl, hx⟩
        exact hK' _ _ ⟨_, rfl, rfl⟩ hx
      rintro _ w7 _ rfl
      simp only [Act.put, List.setIfInBounds_toArray, List.set_cons_succ, List.set_cons_zero]
      refine wpE_call 35 rfl (by simp) rfl (fun w' hw' K' hK' => ?_) ?_
      · have hE := hw'.1
        go_step
        refine (Initial_is 0 0 0 100 1000 50 5 50 50 150 0 0 (by decide) w').mono ?_
        rintro _ w2 ⟨rfl, hx⟩
        exact hK' _ _ ⟨_, rfl, rfl⟩ hx
      rintro _ w8 _ rfl
      simp only [Act.put, List.setIfInBounds_toArray, List.set_cons_succ, List.set_cons_zero]
      refine wpE_op rfl rfl (fun w' hw' K' hK' => ?_)
      have hE := hw'.1
      go_step
      refine hK' _ ⟨_, rfl⟩ ?_
      clear hK' K'  hE hw' w'
      refine wpE_op rfl rfl (fun w' hw' K' hK' => ?_)
      have hE := hw'.1
      go_step
      refine hK' _ ⟨_, rfl⟩ ?_
      clear hK' K'  hE hw' w'
      refine wpE_op rfl rfl (fun w' hw' K' hK' => ?_)
      have hE := hw'.1
      go_step
      refine hK' _ ⟨_, rfl⟩ ?_
      clear hK' K'  hE hw' w'
      refine wpE_call 3 rfl (by simp) rfl (fun w' hw' K' hK' => ?_) ?_
      · have hE := hw'.1
        go_step
        exact hK' _ _ ⟨_, rfl, _, rfl, heap_alloc_new w' _, ((Ext.drew we).trans hE).size⟩ ((Ext.refl w').alloc _)
      rintro _ wA _ ⟨bA, rfl, hTA, hbA⟩
      change TB wA bA 0 0 0 0 at hTA
      simp only [Act.put, List.setIfInBounds_toArray, List.set_cons_succ, List.set_cons_zero]
      refine wpE_nil (fun w3 ha => ?_)
      have hx3 : Ext we w3 := (Ext.drew we).trans ha.1
      have hT3 := hTA.ext (ha.2 3 wA (by simp [adds]))
      obtain ⟨c0, c1, c2, c3⟩ := hT3.cells
      have f0 := hT3.soft 0; have f1 := hT3.soft 1; have f2 := hT3.soft 2; have f3 := hT3.soft 3
      have HT3 := Lib.hid hT3; have HX3 := Lib.hid hx3
      clear ha hTA hT3 hx3
      go_wp2_with fail
      refine ⟨rfl, ?_⟩
      go_wp2_with fail
      obtain ⟨wf, hwf⟩ : ∃ wf, wf = (((w3.setCell ⟨bA, 0, none⟩ (.int .i64 50)).setCell ⟨bA, 1, none⟩ (.int .i64 50)).setCell ⟨bA, 2, none⟩ (.int .i64 150)).setCell ⟨bA, 3, none⟩ (.int .i64 0) := ⟨_, rfl⟩
      have hTF : TB wf bA 50 50 150 0 := by rw [hwf]; exact HT3.out.put _ _ _ _
      have hxf : Ext we wf := by rw [hwf]; exact ext4 HX3.out hbA _ _ _ _
      rw [← hwf]
      clear hwf c0 c1 c2 c3 f0 f1 f2 f3 HT3 HX3
      have HTF := Lib.hid hTF; have HXF := Lib.hid (HXE.out.trans hxf)
      clear hTF hxf
      refine wp_region_ext (fun i v' w' => match i with | 2 => ∃ g, v' = .slice (some ⟨g, 0, none⟩) 5 5 ∧ w'.heap[g]? = some (.cells #[.string ⟨#[53, 48, 32, 53, 48, 32, 49, 53, 48, 32, 48]⟩, .string ⟨#[53, 48, 32, 53, 48, 32, 49, 50, 48, 32, 53, 48, 48]⟩, .string ⟨#[53, 48, 32, 53, 48, 32, 49, 53, 48, 32, 48]⟩, .string ⟨#[53, 48, 32, 53, 54, 32, 49, 53, 54, 32, 48]⟩, .string ⟨#[]⟩] 9 (0, 0)) | 4 => ∃ p, v' = .pointer (some p) ∧ w'.cell? p = some (.string ⟨#[53, 48, 32, 53, 48, 32, 49, 53, 48, 32, 48]⟩) | 6 => ∃ g, v' = .slice (some ⟨g, 0, none⟩) 5 5 ∧ w'.heap[g]? = some (.cells #[.int .i64 0, .int .i64 0, .int .i64 0, .int .i64 0, .int .i64 143] 27 (0, 0)) | 8 => ∃ p, v' = .pointer (some p) ∧ w'.cell? p = some (.int .i64 0) | 10 => v' = .bool true | _ => False) (by kernel_rfl) (by kernel_rfl) ?_
      refine wpE_op rfl rfl (fun w' hw' K' hK' => ?_)
      have hE := hw'.1
      obtain ⟨q0, q1, q2, q3⟩ := (HTF.out.ext ((Ext.drew wf).trans hE)).cells
      go_step
      refine hK' _ ⟨_, rfl⟩ ?_
      clear hK' K' q0 q1 q2 q3 hE hw' w'
      refine wpE_op rfl rfl (fun w' hw' K' hK' => ?_)
      have hE := hw'.1
      go_step
      refine hK' _ ⟨_, rfl⟩ ?_
      clear hK' K'  hE hw' w'
      refine wpE_call 40 rfl (by simp) rfl (fun w' hw' K' hK' => ?_) ?_
      · have hE := hw'.1
        go_step
        exact hK' _ _ ⟨_, rfl, _, rfl, heap_alloc_new w' _⟩ ((Ext.refl w').alloc _)
      rintro _ wB1 _ ⟨gB1, rfl, hB1⟩
      simp only [Act.put, List.setIfInBounds_toArray, List.set_cons_succ, List.set_cons_zero]
      refine wpE_op rfl rfl (fun w' hw' K' hK' => ?_)
      have hE := hw'.1
      go_step
      refine hK' _ ⟨_, rfl⟩ ?_
      clear hK' K'  hE hw' w'
      refine wpE_call 42 rfl (by simp) rfl (fun w' hw' K' hK' => ?_) ?_
      · have hM : Ext wB1 w' := hw'.2 40 wB1 (by simp [adds]) (by decide)
        go_step
        exact hK' _ _ ⟨_, rfl, ⟨gB1, 0, none⟩, rfl, by rw [cell_of_row _ _ 0 _ _ (0, 0) (hM.heap hB1)]; rfl⟩ (Ext.refl w')
      rintro _ wI1 _ ⟨pI1, rfl, hI1⟩
      simp only [Act.put, List.setIfInBounds_toArray, List.set_cons_succ, List.set_cons_zero]
      refine wpE_op rfl rfl (fun w' hw' K' hK' => ?_)
      have hE := hw'.1
      have hq := (hw'.2 42 wI1 (by simp [adds]) (by decide)).cell hI1
      go_step
      refine hK' _ ⟨_, rfl⟩ ?_
      clear hK' K' hq hE hw' w'
      refine wpE_call 44 rfl (by simp) rfl (fun w' hw' K' hK' => ?_) ?_
      · have hE := hw'.1
        go_step
        exact hK' _ _ ⟨_, rfl, _, rfl, heap_alloc_new w' _⟩ ((Ext.refl w').alloc _)
      rintro _ wB2 _ ⟨gB2, rfl, hB2⟩
      simp only [Act.put, List.setIfInBounds_toArray, List.set_cons_succ, List.set_cons_zero]
      refine wpE_op rfl rfl (fun w' hw' K' hK' => ?_)
      have hE := hw'.1
      go_step
      refine hK' _ ⟨_, rfl⟩ ?_
      clear hK' K'  hE hw' w'
      refine wpE_call 46 rfl (by simp) rfl (fun w' hw' K' hK' => ?_) ?_
      · have hM : Ext wB2 w' := hw'.2 44 wB2 (by simp [adds]) (by decide)
        go_step
        exact hK' _ _ ⟨_, rfl, ⟨gB2, 0, none⟩, rfl, by rw [cell_of_row _ _ 0 _ _ (0, 0) (hM.heap hB2)]; rfl⟩ (Ext.refl w')
      rintro _ wI2 _ ⟨pI2, rfl, hI2⟩
      simp only [Act.put, List.setIfInBounds_toArray, List.set_cons_succ, List.set_cons_zero]
      refine wpE_op rfl rfl (fun w' hw' K' hK' => ?_)
      have hE := hw'.1
      have hq := (hw'.2 46 wI2 (by simp [adds]) (by decide)).cell hI2
      go_step
      refine hK' _ ⟨_, rfl⟩ ?_
      clear hK' K' hq hE hw' w'
      refine wpE_call 48 rfl (by simp) rfl (fun w' hw' K' hK' => ?_) ?_
      · have hE := hw'.1
        go_step
        refine (result_yes 50 50 150 0 (by decide) [53, 48, 32, 53, 48, 32, 49, 53, 48, 32, 48] (by simp [textT, wordsT, Lib.join, List.intercalate, Lib.itoa, dec_lt, dec_ge]) w' (HP.out.ext ((HX.out.trans HXF.out).trans ((Ext.drew wf).trans hE)))).mono ?_
        rintro _ w2 ⟨rfl, hx⟩
        exact hK' _ _ ⟨_, rfl, rfl⟩ hx
      rintro _ w9 _ rfl
      simp only [Act.put, List.setIfInBounds_toArray, List.set_cons_succ, List.set_cons_zero]
      refine wpE_op rfl rfl (fun w' hw' K' hK' => ?_)
      have hE := hw'.1
      go_step
      refine hK' _ ⟨_, rfl⟩ ?_
      clear hK' K'  hE hw' w'
      refine wpE_nil (fun w5 ha => ?_)
      have hx5 : Ext wf w5 := (Ext.drew wf).trans ha.1
      clear ha
      have HX5 := Lib.hid (HXF.out.trans hx5); clear hx5
      go_wp2_with fail
      go_roundw
      case rel => exact ⟨1, by omega, by go_num, HX5.out⟩
      case measure => simp [intOf]
    · skip
      have q0 : wr.cell? ⟨w.heap.size, 3, none⟩ = some (.int .i64 0) := by rw [cell_of_row _ _ 3 _ _ (0, 0) hr]; rfl
      have q1 : wr.cell? ⟨w.heap.size, 4, none⟩ = some (.int .i64 120) := by rw [cell_of_row _ _ 4 _ _ (0, 0) hr]; rfl
      have q2 : wr.cell? ⟨w.heap.size, 5, none⟩ = some (.int .i64 500) := by rw [cell_of_row _ _ 5 _ _ (0, 0) hr]; rfl
      clear hr
      go_wp2_with fail
      obtain ⟨we, hwe⟩ : ∃ we, we = wr.alloc (.cells #[.int .i64 0, .int .i64 120, .int .i64 500] 37) := ⟨_, rfl⟩
      have hWB : WB we wr.heap.size 0 120 500 := by rw [hwe]; exact heap_alloc_new wr _
      have hxe : Ext wr we := hwe ▸ (Ext.refl wr).alloc _
      rw [← hwe]
      clear hwe q0 q1 q2
      have HWB := Lib.hid hWB; have HXE := Lib.hid (HXR.out.trans hxe)
      clear hWB hxe
      refine wp_region_ext_edge 7 7 5 (fun i v' w' => match i with | 1 => v' = .agg #[.int .i64 100, .int .i64 1000] | 2 => v' = .tuple #[.agg #[.int .i64 50, .int .i64 50, .int .i64 120, .int .i64 500], .int .i64 0] | 6 => ∃ b, v' = .pointer (some ⟨b, 0, none⟩) ∧ w'.heap[b]? = some (.cells #[.int .i64 0, .int .i64 0, .int .i64 0, .int .i64 0] 23 (0, 0)) ∧ we.heap.size ≤ b | _ => False) (by kernel_rfl) (by kernel_rfl) (by kernel_rfl) ?_
      simp only [withEdge, List.getElem?_toArray, List.getElem?_cons_succ, List.getElem?_cons_zero, List.setIfInBounds_toArray, List.set_cons_succ, List.set_cons_zero, List.push_toArray, List.cons_append, List.nil_append, List.toList_toArray, List.take_succ_cons, List.take_zero, List.drop_succ_cons, List.drop_zero]
      refine wpE_op rfl rfl (fun w' hw' K' hK' => ?_)
      have hE := hw'.1
      obtain ⟨q0, q1, q2⟩ := (HWB.out.ext ((Ext.drew we).trans hE)).cells
      go_step
      refine hK' _ ⟨_, rfl⟩ ?_
      clear hK' K' q0 q1 q2 hE hw' w'
      refine wpE_call 34 rfl (by simp) rfl (fun w' hw' K' hK' => ?_) ?_
      · have hE := hw'.1
        go_step
        refine (limits_at w').mono ?_
        rintro _ w2 ⟨rfl, hx⟩
        exact hK' _ _ ⟨_, rfl, rfl⟩ hx
      rintro _ w7 _ rfl
      simp only [Act.put, List.setIfInBounds_toArray, List.set_cons_succ, List.set_cons_zero]
      refine wpE_call 35 rfl (by simp) rfl (fun w' hw' K' hK' => ?_) ?_
      · have hE := hw'.1
        go_step
        refine (Initial_is 0 120 500 100 1000 50 5 50 50 120 500 0 (by decide) w').mono ?_
        rintro _ w2 ⟨rfl, hx⟩
        exact hK' _ _ ⟨_, rfl, rfl⟩ hx
      rintro _ w8 _ rfl
      simp only [Act.put, List.setIfInBounds_toArray, List.set_cons_succ, List.set_cons_zero]
      refine wpE_op rfl rfl (fun w' hw' K' hK' => ?_)
      have hE := hw'.1
      go_step
      refine hK' _ ⟨_, rfl⟩ ?_
      clear hK' K'  hE hw' w'
      refine wpE_op rfl rfl (fun w' hw' K' hK' => ?_)
      have hE := hw'.1
      go_step
      refine hK' _ ⟨_, rfl⟩ ?_
      clear hK' K'  hE hw' w'
      refine wpE_op rfl rfl (fun w' hw' K' hK' => ?_)
      have hE := hw'.1
      go_step
      refine hK' _ ⟨_, rfl⟩ ?_
      clear hK' K'  hE hw' w'
      refine wpE_call 3 rfl (by simp) rfl (fun w' hw' K' hK' => ?_) ?_
      · have hE := hw'.1
        go_step
        exact hK' _ _ ⟨_, rfl, _, rfl, heap_alloc_new w' _, ((Ext.drew we).trans hE).size⟩ ((Ext.refl w').alloc _)
      rintro _ wA _ ⟨bA, rfl, hTA, hbA⟩
      change TB wA bA 0 0 0 0 at hTA
      simp only [Act.put, List.setIfInBounds_toArray, List.set_cons_succ, List.set_cons_zero]
      refine wpE_nil (fun w3 ha => ?_)
      have hx3 : Ext we w3 := (Ext.drew we).trans ha.1
      have hT3 := hTA.ext (ha.2 3 wA (by simp [adds]))
      obtain ⟨c0, c1, c2, c3⟩ := hT3.cells
      have f0 := hT3.soft 0; have f1 := hT3.soft 1; have f2 := hT3.soft 2; have f3 := hT3.soft 3
      have HT3 := Lib.hid hT3; have HX3 := Lib.hid hx3
      clear ha hTA hT3 hx3
      go_wp2_with fail
      refine ⟨rfl, ?_⟩
      go_wp2_with fail
      obtain ⟨wf, hwf⟩ : ∃ wf, wf = (((w3.setCell ⟨bA, 0, none⟩ (.int .i64 50)).setCell ⟨bA, 1, none⟩ (.int .i64 50)).setCell ⟨bA, 2, none⟩ (.int .i64 120)).setCell ⟨bA, 3, none⟩ (.int .i64 500) := ⟨_, rfl⟩
      have hTF : TB wf bA 50 50 120 500 := by rw [hwf]; exact HT3.out.put _ _ _ _
      have hxf : Ext we wf := by rw [hwf]; exact ext4 HX3.out hbA _ _ _ _
      rw [← hwf]
      clear hwf c0 c1 c2 c3 f0 f1 f2 f3 HT3 HX3
      have HTF := Lib.hid hTF; have HXF := Lib.hid (HXE.out.trans hxf)
      clear hTF hxf
      refine wp_region_ext (fun i v' w' => match i with | 2 => ∃ g, v' = .slice (some ⟨g, 0, none⟩) 5 5 ∧ w'.heap[g]? = some (.cells #[.string ⟨#[53, 48, 32, 53, 48, 32, 49, 53, 48, 32, 48]⟩, .string ⟨#[53, 48, 32, 53, 48, 32, 49, 50, 48, 32, 53, 48, 48]⟩, .string ⟨#[53, 48, 32, 53, 48, 32, 49, 53, 48, 32, 48]⟩, .string ⟨#[53, 48, 32, 53, 54, 32, 49, 53, 54, 32, 48]⟩, .string ⟨#[]⟩] 9 (0, 0)) | 4 => ∃ p, v' = .pointer (some p) ∧ w'.cell? p = some (.string ⟨#[53, 48, 32, 53, 48, 32, 49, 50, 48, 32, 53, 48, 48]⟩) | 6 => ∃ g, v' = .slice (some ⟨g, 0, none⟩) 5 5 ∧ w'.heap[g]? = some (.cells #[.int .i64 0, .int .i64 0, .int .i64 0, .int .i64 0, .int .i64 143] 27 (0, 0)) | 8 => ∃ p, v' = .pointer (some p) ∧ w'.cell? p = some (.int .i64 0) | 10 => v' = .bool true | _ => False) (by kernel_rfl) (by kernel_rfl) ?_
      refine wpE_op rfl rfl (fun w' hw' K' hK' => ?_)
      have hE := hw'.1
      obtain ⟨q0, q1, q2, q3⟩ := (HTF.out.ext ((Ext.drew wf).trans hE)).cells
      go_step
      refine hK' _ ⟨_, rfl⟩ ?_
      clear hK' K' q0 q1 q2 q3 hE hw' w'
      refine wpE_op rfl rfl (fun w' hw' K' hK' => ?_)
      have hE := hw'.1
      go_step
      refine hK' _ ⟨_, rfl⟩ ?_
      clear hK' K'  hE hw' w'
      refine wpE_call 40 rfl (by simp) rfl (fun w' hw' K' hK' => ?_) ?_
      · have hE := hw'.1
        go_step
        exact hK' _ _ ⟨_, rfl, _, rfl, heap_alloc_new w' _⟩ ((Ext.refl w').alloc _)
      rintro _ wB1 _ ⟨gB1, rfl, hB1⟩
      simp only [Act.put, List.setIfInBounds_toArray, List.set_cons_succ, List.set_cons_zero]
      refine wpE_op rfl rfl (fun w' hw' K' hK' => ?_)
      have hE := hw'.1
      go_step
      refine hK' _ ⟨_, rfl⟩ ?_
      clear hK' K'  hE hw' w'
      refine wpE_call 42 rfl (by simp) rfl (fun w' hw' K' hK' => ?_) ?_
      · have hM : Ext wB1 w' := hw'.2 40 wB1 (by simp [adds]) (by decide)
        go_step
        exact hK' _ _ ⟨_, rfl, ⟨gB1, 1, none⟩, rfl, by rw [cell_of_row _ _ 1 _ _ (0, 0) (hM.heap hB1)]; rfl⟩ (Ext.refl w')
      rintro _ wI1 _ ⟨pI1, rfl, hI1⟩
      simp only [Act.put, List.setIfInBounds_toArray, List.set_cons_succ, List.set_cons_zero]
      refine wpE_op rfl rfl (fun w' hw' K' hK' => ?_)
      have hE := hw'.1
      have hq := (hw'.2 42 wI1 (by simp [adds]) (by decide)).cell hI1
      go_step
      refine hK' _ ⟨_, rfl⟩ ?_
      clear hK' K' hq hE hw' w'
      refine wpE_call 44 rfl (by simp) rfl (fun w' hw' K' hK' => ?_) ?_
      · have hE := hw'.1
        go_step
        exact hK' _ _ ⟨_, rfl, _, rfl, heap_alloc_new w' _⟩ ((Ext.refl w').alloc _)
      rintro _ wB2 _ ⟨gB2, rfl, hB2⟩
      simp only [Act.put, List.setIfInBounds_toArray, List.set_cons_succ, List.set_cons_zero]
      refine wpE_op rfl rfl (fun w' hw' K' hK' => ?_)
      have hE := hw'.1
      go_step
      refine hK' _ ⟨_, rfl⟩ ?_
      clear hK' K'  hE hw' w'
      refine wpE_call 46 rfl (by simp) rfl (fun w' hw' K' hK' => ?_) ?_
      · have hM : Ext wB2 w' := hw'.2 44 wB2 (by simp [adds]) (by decide)
        go_step
        exact hK' _ _ ⟨_, rfl, ⟨gB2, 1, none⟩, rfl, by rw [cell_of_row _ _ 1 _ _ (0, 0) (hM.heap hB2)]; rfl⟩ (Ext.refl w')
      rintro _ wI2 _ ⟨pI2, rfl, hI2⟩
      simp only [Act.put, List.setIfInBounds_toArray, List.set_cons_succ, List.set_cons_zero]
      refine wpE_op rfl rfl (fun w' hw' K' hK' => ?_)
      have hE := hw'.1
      have hq := (hw'.2 46 wI2 (by simp [adds]) (by decide)).cell hI2
      go_step
      refine hK' _ ⟨_, rfl⟩ ?_
      clear hK' K' hq hE hw' w'
      refine wpE_call 48 rfl (by simp) rfl (fun w' hw' K' hK' => ?_) ?_
      · have hE := hw'.1
        go_step
        refine (result_yes 50 50 120 500 (by decide) [53, 48, 32, 53, 48, 32, 49, 50, 48, 32, 53, 48, 48] (by simp [textT, wordsT, Lib.join, List.intercalate, Lib.itoa, dec_lt, dec_ge]) w' (HP.out.ext ((HX.out.trans HXF.out).trans ((Ext.drew wf).trans hE)))).mono ?_
        rintro _ w2 ⟨rfl, hx⟩
        exact hK' _ _ ⟨_, rfl, rfl⟩ hx
      rintro _ w9 _ rfl
      simp only [Act.put, List.setIfInBounds_toArray, List.set_cons_succ, List.set_cons_zero]
      refine wpE_op rfl rfl (fun w' hw' K' hK' => ?_)
      have hE := hw'.1
      go_step
      refine hK' _ ⟨_, rfl⟩ ?_
      clear hK' K'  hE hw' w'
      refine wpE_nil (fun w5 ha => ?_)
      have hx5 : Ext wf w5 := (Ext.drew wf).trans ha.1
      clear ha
      have HX5 := Lib.hid (HXF.out.trans hx5); clear hx5
      go_wp2_with fail
      go_roundw
      case rel => exact ⟨2, by omega, by go_num, HX5.out⟩
      case measure => simp [intOf]
    · skip
      have q0 : wr.cell? ⟨w.heap.size, 6, none⟩ = some (.int .i64 55) := by rw [cell_of_row _ _ 6 _ _ (0, 0) hr]; rfl
      have q1 : wr.cell? ⟨w.heap.size, 7, none⟩ = some (.int .i64 0) := by rw [cell_of_row _ _ 7 _ _ (0, 0) hr]; rfl
      have q2 : wr.cell? ⟨w.heap.size, 8, none⟩ = some (.int .i64 0) := by rw [cell_of_row _ _ 8 _ _ (0, 0) hr]; rfl
      clear hr
      go_wp2_with fail
      obtain ⟨we, hwe⟩ : ∃ we, we = wr.alloc (.cells #[.int .i64 55, .int .i64 0, .int .i64 0] 37) := ⟨_, rfl⟩
      have hWB : WB we wr.heap.size 55 0 0 := by rw [hwe]; exact heap_alloc_new wr _
      have hxe : Ext wr we := hwe ▸ (Ext.refl wr).alloc _
      rw [← hwe]
      clear hwe q0 q1 q2
      have HWB := Lib.hid hWB; have HXE := Lib.hid (HXR.out.trans hxe)
      clear hWB hxe
      refine wp_region_ext_edge 7 7 5 (fun i v' w' => match i with | 1 => v' = .agg #[.int .i64 100, .int .i64 1000] | 2 => v' = .tuple #[.agg #[.int .i64 50, .int .i64 50, .int .i64 150, .int .i64 0], .int .i64 0] | 6 => ∃ b, v' = .pointer (some ⟨b, 0, none⟩) ∧ w'.heap[b]? = some (.cells #[.int .i64 0, .int .i64 0, .int .i64 0, .int .i64 0] 23 (0, 0)) ∧ we.heap.size ≤ b | _ => False) (by kernel_rfl) (by kernel_rfl) (by kernel_rfl) ?_
      simp only [withEdge, List.getElem?_toArray, List.getElem?_cons_succ, List.getElem?_cons_zero, List.setIfInBounds_toArray, List.set_cons_succ, List.set_cons_zero, List.push_toArray, List.cons_append, List.nil_append, List.toList_toArray, List.take_succ_cons, List.take_zero, List.drop_succ_cons, List.drop_zero]
      refine wpE_op rfl rfl (fun w' hw' K' hK' => ?_)
      have hE := hw'.1
      obtain ⟨q0, q1, q2⟩ := (HWB.out.ext ((Ext.drew we).trans hE)).cells
      go_step
      refine hK' _ ⟨_, rfl⟩ ?_
      clear hK' K' q0 q1 q2 hE hw' w'
      refine wpE_call 34 rfl (by simp) rfl (fun w' hw' K' hK' => ?_) ?_
      · have hE := hw'.1
        go_step
        refine (limits_at w').mono ?_
        rintro _ w2 ⟨rfl, hx⟩
        exact hK' _ _ ⟨_, rfl, rfl⟩ hx
      rintro _ w7 _ rfl
      simp only [Act.put, List.setIfInBounds_toArray, List.set_cons_succ, List.set_cons_zero]
      refine wpE_call 35 rfl (by simp) rfl (fun w' hw' K' hK' => ?_) ?_
      · have hE := hw'.1
        go_step
        refine (Initial_is 55 0 0 100 1000 50 5 50 50 150 0 0 (by decide) w').mono ?_
        rintro _ w2 ⟨rfl, hx⟩
        exact hK' _ _ ⟨_, rfl, rfl⟩ hx
      rintro _ w8 _ rfl
      simp only [Act.put, List.setIfInBounds_toArray, List.set_cons_succ, List.set_cons_zero]
      refine wpE_op rfl rfl (fun w' hw' K' hK' => ?_)
      have hE := hw'.1
      go_step
      refine hK' _ ⟨_, rfl⟩ ?_
      clear hK' K'  hE hw' w'
      refine wpE_op rfl rfl (fun w' hw' K' hK' => ?_)
      have hE := hw'.1
      go_step
      refine hK' _ ⟨_, rfl⟩ ?_
      clear hK' K'  hE hw' w'
      refine wpE_op rfl rfl (fun w' hw' K' hK' => ?_)
      have hE := hw'.1
      go_step
      refine hK' _ ⟨_, rfl⟩ ?_
      clear hK' K'  hE hw' w'
      refine wpE_call 3 rfl (by simp) rfl (fun w' hw' K' hK' => ?_) ?_
      · have hE := hw'.1
        go_step
        exact hK' _ _ ⟨_, rfl, _, rfl, heap_alloc_new w' _, ((Ext.drew we).trans hE).size⟩ ((Ext.refl w').alloc _)
      rintro _ wA _ ⟨bA, rfl, hTA, hbA⟩
      change TB wA bA 0 0 0 0 at hTA
      simp only [Act.put, List.setIfInBounds_toArray, List.set_cons_succ, List.set_cons_zero]
      refine wpE_nil (fun w3 ha => ?_)
      have hx3 : Ext we w3 := (Ext.drew we).trans ha.1
      have hT3 := hTA.ext (ha.2 3 wA (by simp [adds]))
      obtain ⟨c0, c1, c2, c3⟩ := hT3.cells
      have f0 := hT3.soft 0; have f1 := hT3.soft 1; have f2 := hT3.soft 2; have f3 := hT3.soft 3
      have HT3 := Lib.hid hT3; have HX3 := Lib.hid hx3
      clear ha hTA hT3 hx3
      go_wp2_with fail
      refine ⟨rfl, ?_⟩
      go_wp2_with fail
      obtain ⟨wf, hwf⟩ : ∃ wf, wf = (((w3.setCell ⟨bA, 0, none⟩ (.int .i64 50)).setCell ⟨bA, 1, none⟩ (.int .i64 50)).setCell ⟨bA, 2, none⟩ (.int .i64 150)).setCell ⟨bA, 3, none⟩ (.int .i64 0) := ⟨_, rfl⟩
      have hTF : TB wf bA 50 50 150 0 := by rw [hwf]; exact HT3.out.put _ _ _ _
      have hxf : Ext we wf := by rw [hwf]; exact ext4 HX3.out hbA _ _ _ _
      rw [← hwf]
      clear hwf c0 c1 c2 c3 f0 f1 f2 f3 HT3 HX3
      have HTF := Lib.hid hTF; have HXF := Lib.hid (HXE.out.trans hxf)
      clear hTF hxf
      refine wp_region_ext (fun i v' w' => match i with | 2 => ∃ g, v' = .slice (some ⟨g, 0, none⟩) 5 5 ∧ w'.heap[g]? = some (.cells #[.string ⟨#[53, 48, 32, 53, 48, 32, 49, 53, 48, 32, 48]⟩, .string ⟨#[53, 48, 32, 53, 48, 32, 49, 50, 48, 32, 53, 48, 48]⟩, .string ⟨#[53, 48, 32, 53, 48, 32, 49, 53, 48, 32, 48]⟩, .string ⟨#[53, 48, 32, 53, 54, 32, 49, 53, 54, 32, 48]⟩, .string ⟨#[]⟩] 9 (0, 0)) | 4 => ∃ p, v' = .pointer (some p) ∧ w'.cell? p = some (.string ⟨#[53, 48, 32, 53, 48, 32, 49, 53, 48, 32, 48]⟩) | 6 => ∃ g, v' = .slice (some ⟨g, 0, none⟩) 5 5 ∧ w'.heap[g]? = some (.cells #[.int .i64 0, .int .i64 0, .int .i64 0, .int .i64 0, .int .i64 143] 27 (0, 0)) | 8 => ∃ p, v' = .pointer (some p) ∧ w'.cell? p = some (.int .i64 0) | 10 => v' = .bool true | _ => False) (by kernel_rfl) (by kernel_rfl) ?_
      refine wpE_op rfl rfl (fun w' hw' K' hK' => ?_)
      have hE := hw'.1
      obtain ⟨q0, q1, q2, q3⟩ := (HTF.out.ext ((Ext.drew wf).trans hE)).cells
      go_step
      refine hK' _ ⟨_, rfl⟩ ?_
      clear hK' K' q0 q1 q2 q3 hE hw' w'
      refine wpE_op rfl rfl (fun w' hw' K' hK' => ?_)
      have hE := hw'.1
      go_step
      refine hK' _ ⟨_, rfl⟩ ?_
      clear hK' K'  hE hw' w'
      refine wpE_call 40 rfl (by simp) rfl (fun w' hw' K' hK' => ?_) ?_
      · have hE := hw'.1
        go_step
        exact hK' _ _ ⟨_, rfl, _, rfl, heap_alloc_new w' _⟩ ((Ext.refl w').alloc _)
      rintro _ wB1 _ ⟨gB1, rfl, hB1⟩
      simp only [Act.put, List.setIfInBounds_toArray, List.set_cons_succ, List.set_cons_zero]
      refine wpE_op rfl rfl (fun w' hw' K' hK' => ?_)
      have hE := hw'.1
      go_step
      refine hK' _ ⟨_, rfl⟩ ?_
      clear hK' K'  hE hw' w'
      refine wpE_call 42 rfl (by simp) rfl (fun w' hw' K' hK' => ?_) ?_
      · have hM : Ext wB1 w' := hw'.2 40 wB1 (by simp [adds]) (by decide)
        go_step
        exact hK' _ _ ⟨_, rfl, ⟨gB1, 2, none⟩, rfl, by rw [cell_of_row _ _ 2 _ _ (0, 0) (hM.heap hB1)]; rfl⟩ (Ext.refl w')
      rintro _ wI1 _ ⟨pI1, rfl, hI1⟩
      simp only [Act.put, List.setIfInBounds_toArray, List.set_cons_succ, List.set_cons_zero]
      refine wpE_op rfl rfl (fun w' hw' K' hK' => ?_)
      have hE := hw'.1
      have hq := (hw'.2 42 wI1 (by simp [adds]) (by decide)).cell hI1
      go_step
      refine hK' _ ⟨_, rfl⟩ ?_
      clear hK' K' hq hE hw' w'
      refine wpE_call 44 rfl (by simp) rfl (fun w' hw' K' hK' => ?_) ?_
      · have hE := hw'.1
        go_step
        exact hK' _ _ ⟨_, rfl, _, rfl, heap_alloc_new w' _⟩ ((Ext.refl w').alloc _)
      rintro _ wB2 _ ⟨gB2, rfl, hB2⟩
      simp only [Act.put, List.setIfInBounds_toArray, List.set_cons_succ, List.set_cons_zero]
      refine wpE_op rfl rfl (fun w' hw' K' hK' => ?_)
      have hE := hw'.1
      go_step
      refine hK' _ ⟨_, rfl⟩ ?_
      clear hK' K'  hE hw' w'
      refine wpE_call 46 rfl (by simp) rfl (fun w' hw' K' hK' => ?_) ?_
      · have hM : Ext wB2 w' := hw'.2 44 wB2 (by simp [adds]) (by decide)
        go_step
        exact hK' _ _ ⟨_, rfl, ⟨gB2, 2, none⟩, rfl, by rw [cell_of_row _ _ 2 _ _ (0, 0) (hM.heap hB2)]; rfl⟩ (Ext.refl w')
      rintro _ wI2 _ ⟨pI2, rfl, hI2⟩
      simp only [Act.put, List.setIfInBounds_toArray, List.set_cons_succ, List.set_cons_zero]
      refine wpE_op rfl rfl (fun w' hw' K' hK' => ?_)
      have hE := hw'.1
      have hq := (hw'.2 46 wI2 (by simp [adds]) (by decide)).cell hI2
      go_step
      refine hK' _ ⟨_, rfl⟩ ?_
      clear hK' K' hq hE hw' w'
      refine wpE_call 48 rfl (by simp) rfl (fun w' hw' K' hK' => ?_) ?_
      · have hE := hw'.1
        go_step
        refine (result_yes 50 50 150 0 (by decide) [53, 48, 32, 53, 48, 32, 49, 53, 48, 32, 48] (by simp [textT, wordsT, Lib.join, List.intercalate, Lib.itoa, dec_lt, dec_ge]) w' (HP.out.ext ((HX.out.trans HXF.out).trans ((Ext.drew wf).trans hE)))).mono ?_
        rintro _ w2 ⟨rfl, hx⟩
        exact hK' _ _ ⟨_, rfl, rfl⟩ hx
      rintro _ w9 _ rfl
      simp only [Act.put, List.setIfInBounds_toArray, List.set_cons_succ, List.set_cons_zero]
      refine wpE_op rfl rfl (fun w' hw' K' hK' => ?_)
      have hE := hw'.1
      go_step
      refine hK' _ ⟨_, rfl⟩ ?_
      clear hK' K'  hE hw' w'
      refine wpE_nil (fun w5 ha => ?_)
      have hx5 : Ext wf w5 := (Ext.drew wf).trans ha.1
      clear ha
      have HX5 := Lib.hid (HXF.out.trans hx5); clear hx5
      go_wp2_with fail
      go_roundw
      case rel => exact ⟨3, by omega, by go_num, HX5.out⟩
      case measure => simp [intOf]
    · skip
      have q0 : wr.cell? ⟨w.heap.size, 9, none⟩ = some (.int .i64 56) := by rw [cell_of_row _ _ 9 _ _ (0, 0) hr]; rfl
      have q1 : wr.cell? ⟨w.heap.size, 10, none⟩ = some (.int .i64 0) := by rw [cell_of_row _ _ 10 _ _ (0, 0) hr]; rfl
      have q2 : wr.cell? ⟨w.heap.size, 11, none⟩ = some (.int .i64 0) := by rw [cell_of_row _ _ 11 _ _ (0, 0) hr]; rfl
      clear hr
      go_wp2_with fail
      obtain ⟨we, hwe⟩ : ∃ we, we = wr.alloc (.cells #[.int .i64 56, .int .i64 0, .int .i64 0] 37) := ⟨_, rfl⟩
      have hWB : WB we wr.heap.size 56 0 0 := by rw [hwe]; exact heap_alloc_new wr _
      have hxe : Ext wr we := hwe ▸ (Ext.refl wr).alloc _
      rw [← hwe]
      clear hwe q0 q1 q2
      have HWB := Lib.hid hWB; have HXE := Lib.hid (HXR.out.trans hxe)
      clear hWB hxe
      refine wp_region_ext_edge 7 7 5 (fun i v' w' => match i with | 1 => v' = .agg #[.int .i64 100, .int .i64 1000] | 2 => v' = .tuple #[.agg #[.int .i64 50, .int .i64 56, .int .i64 156, .int .i64 0], .int .i64 0] | 6 => ∃ b, v' = .pointer (some ⟨b, 0, none⟩) ∧ w'.heap[b]? = some (.cells #[.int .i64 0, .int .i64 0, .int .i64 0, .int .i64 0] 23 (0, 0)) ∧ we.heap.size ≤ b | _ => False) (by kernel_rfl) (by kernel_rfl) (by kernel_rfl) ?_
      simp only [withEdge, List.getElem?_toArray, List.getElem?_cons_succ, List.getElem?_cons_zero, List.setIfInBounds_toArray, List.set_cons_succ, List.set_cons_zero, List.push_toArray, List.cons_append, List.nil_append, List.toList_toArray, List.take_succ_cons, List.take_zero, List.drop_succ_cons, List.drop_zero]
      refine wpE_op rfl rfl (fun w' hw' K' hK' => ?_)
      have hE := hw'.1
      obtain ⟨q0, q1, q2⟩ := (HWB.out.ext ((Ext.drew we).trans hE)).cells
      go_step
      refine hK' _ ⟨_, rfl⟩ ?_
      clear hK' K' q0 q1 q2 hE hw' w'
      refine wpE_call 34 rfl (by simp) rfl (fun w' hw' K' hK' => ?_) ?_
      · have hE := hw'.1
        go_step
        refine (limits_at w').mono ?_
        rintro _ w2 ⟨rfl, hx⟩
        exact hK' _ _ ⟨_, rfl, rfl⟩ hx
      rintro _ w7 _ rfl
      simp only [Act.put, List.setIfInBounds_toArray, List.set_cons_succ, List.set_cons_zero]
      refine wpE_call 35 rfl (by simp) rfl (fun w' hw' K' hK' => ?_) ?_
      · have hE := hw'.1
        go_step
        refine (Initial_is 56 0 0 100 1000 50 5 50 56 156 0 0 (by decide) w').mono ?_
        rintro _ w2 ⟨rfl, hx⟩
        exact hK' _ _ ⟨_, rfl, rfl⟩ hx
      rintro _ w8 _ rfl
      simp only [Act.put, List.setIfInBounds_toArray, List.set_cons_succ, List.set_cons_zero]
      refine wpE_op rfl rfl (fun w' hw' K' hK' => ?_)
      have hE := hw'.1
      go_step
      refine hK' _ ⟨_, rfl⟩ ?_
      clear hK' K'  hE hw' w'
      refine wpE_op rfl rfl (fun w' hw' K' hK' => ?_)
      have hE := hw'.1
      go_step
      refine hK' _ ⟨_, rfl⟩ ?_
      clear hK' K'  hE hw' w'
      refine wpE_op rfl rfl (fun w' hw' K' hK' => ?_)
      have hE := hw'.1
      go_step
      refine hK' _ ⟨_, rfl⟩ ?_
      clear hK' K'  hE hw' w'
      refine wpE_call 3 rfl (by simp) rfl (fun w' hw' K' hK' => ?_) ?_
      · have hE := hw'.1
        go_step
        exact hK' _ _ ⟨_, rfl, _, rfl, heap_alloc_new w' _, ((Ext.drew we).trans hE).size⟩ ((Ext.refl w').alloc _)
      rintro _ wA _ ⟨bA, rfl, hTA, hbA⟩
      change TB wA bA 0 0 0 0 at hTA
      simp only [Act.put, List.setIfInBounds_toArray, List.set_cons_succ, List.set_cons_zero]
      refine wpE_nil (fun w3 ha => ?_)
      have hx3 : Ext we w3 := (Ext.drew we).trans ha.1
      have hT3 := hTA.ext (ha.2 3 wA (by simp [adds]))
      obtain ⟨c0, c1, c2, c3⟩ := hT3.cells
      have f0 := hT3.soft 0; have f1 := hT3.soft 1; have f2 := hT3.soft 2; have f3 := hT3.soft 3
      have HT3 := Lib.hid hT3; have HX3 := Lib.hid hx3
      clear ha hTA hT3 hx3
      go_wp2_with fail
      refine ⟨rfl, ?_⟩
      go_wp2_with fail
      obtain ⟨wf, hwf⟩ : ∃ wf, wf = (((w3.setCell ⟨bA, 0, none⟩ (.int .i64 50)).setCell ⟨bA, 1, none⟩ (.int .i64 56)).setCell ⟨bA, 2, none⟩ (.int .i64 156)).setCell ⟨bA, 3, none⟩ (.int .i64 0) := ⟨_, rfl⟩
      have hTF : TB wf bA 50 56 156 0 := by rw [hwf]; exact HT3.out.put _ _ _ _
      have hxf : Ext we wf := by rw [hwf]; exact ext4 HX3.out hbA _ _ _ _
      rw [← hwf]
      clear hwf c0 c1 c2 c3 f0 f1 f2 f3 HT3 HX3
      have HTF := Lib.hid hTF; have HXF := Lib.hid (HXE.out.trans hxf)
      clear hTF hxf
      refine wp_region_ext (fun i v' w' => match i with | 2 => ∃ g, v' = .slice (some ⟨g, 0, none⟩) 5 5 ∧ w'.heap[g]? = some (.cells #[.string ⟨#[53, 48, 32, 53, 48, 32, 49, 53, 48, 32, 48]⟩, .string ⟨#[53, 48, 32, 53, 48, 32, 49, 50, 48, 32, 53, 48, 48]⟩, .string ⟨#[53, 48, 32, 53, 48, 32, 49, 53, 48, 32, 48]⟩, .string ⟨#[53, 48, 32, 53, 54, 32, 49, 53, 54, 32, 48]⟩, .string ⟨#[]⟩] 9 (0, 0)) | 4 => ∃ p, v' = .pointer (some p) ∧ w'.cell? p = some (.string ⟨#[53, 48, 32, 53, 54, 32, 49, 53, 54, 32, 48]⟩) | 6 => ∃ g, v' = .slice (some ⟨g, 0, none⟩) 5 5 ∧ w'.heap[g]? = some (.cells #[.int .i64 0, .int .i64 0, .int .i64 0, .int .i64 0, .int .i64 143] 27 (0, 0)) | 8 => ∃ p, v' = .pointer (some p) ∧ w'.cell? p = some (.int .i64 0) | 10 => v' = .bool true | _ => False) (by kernel_rfl) (by kernel_rfl) ?_
      refine wpE_op rfl rfl (fun w' hw' K' hK' => ?_)
      have hE := hw'.1
      obtain ⟨q0, q1, q2, q3⟩ := (HTF.out.ext ((Ext.drew wf).trans hE)).cells
      go_step
      refine hK' _ ⟨_, rfl⟩ ?_
      clear hK' K' q0 q1 q2 q3 hE hw' w'
      refine wpE_op rfl rfl (fun w' hw' K' hK' => ?_)
      have hE := hw'.1
      go_step
      refine hK' _ ⟨_, rfl⟩ ?_
      clear hK' K'  hE hw' w'
      refine wpE_call 40 rfl (by simp) rfl (fun w' hw' K' hK' => ?_) ?_
      · have hE := hw'.1
        go_step
        exact hK' _ _ ⟨_, rfl, _, rfl, heap_alloc_new w' _⟩ ((Ext.refl w').alloc _)
      rintro _ wB1 _ ⟨gB1, rfl, hB1⟩
      simp only [Act.put, List.setIfInBounds_toArray, List.set_cons_succ, List.set_cons_zero]
      refine wpE_op rfl rfl (fun w' hw' K' hK' => ?_)
      have hE := hw'.1
      go_step
      refine hK' _ ⟨_, rfl⟩ ?_
      clear hK' K'  hE hw' w'
      refine wpE_call 42 rfl (by simp) rfl (fun w' hw' K' hK' => ?_) ?_
      · have hM : Ext wB1 w' := hw'.2 40 wB1 (by simp [adds]) (by decide)
        go_step
        exact hK' _ _ ⟨_, rfl, ⟨gB1, 3, none⟩, rfl, by rw [cell_of_row _ _ 3 _ _ (0, 0) (hM.heap hB1)]; rfl⟩ (Ext.refl w')
      rintro _ wI1 _ ⟨pI1, rfl, hI1⟩
      simp only [Act.put, List.setIfInBounds_toArray, List.set_cons_succ, List.set_cons_zero]
      refine wpE_op rfl rfl (fun w' hw' K' hK' => ?_)
      have hE := hw'.1
      have hq := (hw'.2 42 wI1 (by simp [adds]) (by decide)).cell hI1
      go_step
      refine hK' _ ⟨_, rfl⟩ ?_
      clear hK' K' hq hE hw' w'
      refine wpE_call 44 rfl (by simp) rfl (fun w' hw' K' hK' => ?_) ?_
      · have hE := hw'.1
        go_step
        exact hK' _ _ ⟨_, rfl, _, rfl, heap_alloc_new w' _⟩ ((Ext.refl w').alloc _)
      rintro _ wB2 _ ⟨gB2, rfl, hB2⟩
      simp only [Act.put, List.setIfInBounds_toArray, List.set_cons_succ, List.set_cons_zero]
      refine wpE_op rfl rfl (fun w' hw' K' hK' => ?_)
      have hE := hw'.1
      go_step
      refine hK' _ ⟨_, rfl⟩ ?_
      clear hK' K'  hE hw' w'
      refine wpE_call 46 rfl (by simp) rfl (fun w' hw' K' hK' => ?_) ?_
      · have hM : Ext wB2 w' := hw'.2 44 wB2 (by simp [adds]) (by decide)
        go_step
        exact hK' _ _ ⟨_, rfl, ⟨gB2, 3, none⟩, rfl, by rw [cell_of_row _ _ 3 _ _ (0, 0) (hM.heap hB2)]; rfl⟩ (Ext.refl w')
      rintro _ wI2 _ ⟨pI2, rfl, hI2⟩
      simp only [Act.put, List.setIfInBounds_toArray, List.set_cons_succ, List.set_cons_zero]
      refine wpE_op rfl rfl (fun w' hw' K' hK' => ?_)
      have hE := hw'.1
      have hq := (hw'.2 46 wI2 (by simp [adds]) (by decide)).cell hI2
      go_step
      refine hK' _ ⟨_, rfl⟩ ?_
      clear hK' K' hq hE hw' w'
      refine wpE_call 48 rfl (by simp) rfl (fun w' hw' K' hK' => ?_) ?_
      · have hE := hw'.1
        go_step
        refine (result_yes 50 56 156 0 (by decide) [53, 48, 32, 53, 54, 32, 49, 53, 54, 32, 48] (by simp [textT, wordsT, Lib.join, List.intercalate, Lib.itoa, dec_lt, dec_ge]) w' (HP.out.ext ((HX.out.trans HXF.out).trans ((Ext.drew wf).trans hE)))).mono ?_
        rintro _ w2 ⟨rfl, hx⟩
        exact hK' _ _ ⟨_, rfl, rfl⟩ hx
      rintro _ w9 _ rfl
      simp only [Act.put, List.setIfInBounds_toArray, List.set_cons_succ, List.set_cons_zero]
      refine wpE_op rfl rfl (fun w' hw' K' hK' => ?_)
      have hE := hw'.1
      go_step
      refine hK' _ ⟨_, rfl⟩ ?_
      clear hK' K'  hE hw' w'
      refine wpE_nil (fun w5 ha => ?_)
      have hx5 : Ext wf w5 := (Ext.drew wf).trans ha.1
      clear ha
      have HX5 := Lib.hid (HXF.out.trans hx5); clear hx5
      go_wp2_with fail
      go_roundw
      case rel => exact ⟨4, by omega, by go_num, HX5.out⟩
      case measure => simp [intOf]
    · skip
      have q0 : wr.cell? ⟨w.heap.size, 12, none⟩ = some (.int .i64 0) := by rw [cell_of_row _ _ 12 _ _ (0, 0) hr]; rfl
      have q1 : wr.cell? ⟨w.heap.size, 13, none⟩ = some (.int .i64 50) := by rw [cell_of_row _ _ 13 _ _ (0, 0) hr]; rfl
      have q2 : wr.cell? ⟨w.heap.size, 14, none⟩ = some (.int .i64 0) := by rw [cell_of_row _ _ 14 _ _ (0, 0) hr]; rfl
      clear hr
      go_wp2_with fail
      obtain ⟨we, hwe⟩ : ∃ we, we = wr.alloc (.cells #[.int .i64 0, .int .i64 50, .int .i64 0] 37) := ⟨_, rfl⟩
      have hWB : WB we wr.heap.size 0 50 0 := by rw [hwe]; exact heap_alloc_new wr _
      have hxe : Ext wr we := hwe ▸ (Ext.refl wr).alloc _
      rw [← hwe]
      clear hwe q0 q1 q2
      have HWB := Lib.hid hWB; have HXE := Lib.hid (HXR.out.trans hxe)
      clear hWB hxe
      refine wp_region_ext_edge 7 7 5 (fun i v' w' => match i with | 1 => v' = .agg #[.int .i64 100, .int .i64 1000] | 2 => v' = .tuple #[.agg #[.int .i64 0, .int .i64 0, .int .i64 0, .int .i64 0], .int .i64 143] | 6 => ∃ b, v' = .pointer (some ⟨b, 0, none⟩) ∧ w'.heap[b]? = some (.cells #[.int .i64 0, .int .i64 0, .int .i64 0, .int .i64 0] 23 (0, 0)) ∧ we.heap.size ≤ b | _ => False) (by kernel_rfl) (by kernel_rfl) (by kernel_rfl) ?_
      simp only [withEdge, List.getElem?_toArray, List.getElem?_cons_succ, List.getElem?_cons_zero, List.setIfInBounds_toArray, List.set_cons_succ, List.set_cons_zero, List.push_toArray, List.cons_append, List.nil_append, List.toList_toArray, List.take_succ_cons, List.take_zero, List.drop_succ_cons, List.drop_zero]
      refine wpE_op rfl rfl (fun w' hw' K' hK' => ?_)
      have hE := hw'.1
      obtain ⟨q0, q1, q2⟩ := (HWB.out.ext ((Ext.drew we).trans hE)).cells
      go_step
      refine hK' _ ⟨_, rfl⟩ ?_
      clear hK' K' q0 q1 q2 hE hw' w'
      refine wpE_call 34 rfl (by simp) rfl (fun w' hw' K' hK' => ?_) ?_
      · have hE := hw'.1
        go_step
        refine (limits_at w').mono ?_
        rintro _ w2 ⟨rfl, hx⟩
        exact hK' _ _ ⟨_, rfl, rfl⟩ hx
      rintro _ w7 _ rfl
      simp only [Act.put, List.setIfInBounds_toArray, List.set_cons_succ, List.set_cons_zero]
      refine wpE_call 35 rfl (by simp) rfl (fun w' hw' K' hK' => ?_) ?_
      · have hE := hw'.1
        go_step
        refine (Initial_is 0 50 0 100 1000 50 5 0 0 0 0 143 (by decide) w').mono ?_
        rintro _ w2 ⟨rfl, hx⟩
        exact hK' _ _ ⟨_, rfl, rfl⟩ hx
      rintro _ w8 _ rfl
      simp only [Act.put, List.setIfInBounds_toArray, List.set_cons_succ, List.set_cons_zero]
      refine wpE_op rfl rfl (fun w' hw' K' hK' => ?_)
      have hE := hw'.1
      go_step
      refine hK' _ ⟨_, rfl⟩ ?_
      clear hK' K'  hE hw' w'
      refine wpE_op rfl rfl (fun w' hw' K' hK' => ?_)
      have hE := hw'.1
      go_step
      refine hK' _ ⟨_, rfl⟩ ?_
      clear hK' K'  hE hw' w'
      refine wpE_op rfl rfl (fun w' hw' K' hK' => ?_)
      have hE := hw'.1
      go_step
      refine hK' _ ⟨_, rfl⟩ ?_
      clear hK' K'  hE hw' w'
      refine wpE_call 3 rfl (by simp) rfl (fun w' hw' K' hK' => ?_) ?_
      · have hE := hw'.1
        go_step
        exact hK' _ _ ⟨_, rfl, _, rfl, heap_alloc_new w' _, ((Ext.drew we).trans hE).size⟩ ((Ext.refl w').alloc _)
      rintro _ wA _ ⟨bA, rfl, hTA, hbA⟩
      change TB wA bA 0 0 0 0 at hTA
      simp only [Act.put, List.setIfInBounds_toArray, List.set_cons_succ, List.set_cons_zero]
      refine wpE_nil (fun w3 ha => ?_)
      have hx3 : Ext we w3 := (Ext.drew we).trans ha.1
      have hT3 := hTA.ext (ha.2 3 wA (by simp [adds]))
      obtain ⟨c0, c1, c2, c3⟩ := hT3.cells
      have f0 := hT3.soft 0; have f1 := hT3.soft 1; have f2 := hT3.soft 2; have f3 := hT3.soft 3
      have HT3 := Lib.hid hT3; have HX3 := Lib.hid hx3
      clear ha hTA hT3 hx3
      go_wp2_with fail
      refine ⟨rfl, ?_⟩
      go_wp2_with fail
      obtain ⟨wf, hwf⟩ : ∃ wf, wf = (((w3.setCell ⟨bA, 0, none⟩ (.int .i64 0)).setCell ⟨bA, 1, none⟩ (.int .i64 0)).setCell ⟨bA, 2, none⟩ (.int .i64 0)).setCell ⟨bA, 3, none⟩ (.int .i64 0) := ⟨_, rfl⟩
      have hTF : TB wf bA 0 0 0 0 := by rw [hwf]; exact HT3.out.put _ _ _ _
      have hxf : Ext we wf := by rw [hwf]; exact ext4 HX3.out hbA _ _ _ _
      rw [← hwf]
      clear hwf c0 c1 c2 c3 f0 f1 f2 f3 HT3 HX3
      have HTF := Lib.hid hTF; have HXF := Lib.hid (HXE.out.trans hxf)
      clear hTF hxf
      refine wp_region_ext (fun i v' w' => match i with | 2 => ∃ g, v' = .slice (some ⟨g, 0, none⟩) 5 5 ∧ w'.heap[g]? = some (.cells #[.string ⟨#[53, 48, 32, 53, 48, 32, 49, 53, 48, 32, 48]⟩, .string ⟨#[53, 48, 32, 53, 48, 32, 49, 50, 48, 32, 53, 48, 48]⟩, .string ⟨#[53, 48, 32, 53, 48, 32, 49, 53, 48, 32, 48]⟩, .string ⟨#[53, 48, 32, 53, 54, 32, 49, 53, 54, 32, 48]⟩, .string ⟨#[]⟩] 9 (0, 0)) | 4 => ∃ p, v' = .pointer (some p) ∧ w'.cell? p = some (.string ⟨#[]⟩) | 6 => ∃ g, v' = .slice (some ⟨g, 0, none⟩) 5 5 ∧ w'.heap[g]? = some (.cells #[.int .i64 0, .int .i64 0, .int .i64 0, .int .i64 0, .int .i64 143] 27 (0, 0)) | 8 => ∃ p, v' = .pointer (some p) ∧ w'.cell? p = some (.int .i64 143) | 10 => v' = .bool true | _ => False) (by kernel_rfl) (by kernel_rfl) ?_
      refine wpE_op rfl rfl (fun w' hw' K' hK' => ?_)
      have hE := hw'.1
      obtain ⟨q0, q1, q2, q3⟩ := (HTF.out.ext ((Ext.drew wf).trans hE)).cells
      go_step
      refine hK' _ ⟨_, rfl⟩ ?_
      clear hK' K' q0 q1 q2 q3 hE hw' w'
      refine wpE_op rfl rfl (fun w' hw' K' hK' => ?_)
      have hE := hw'.1
      go_step
      refine hK' _ ⟨_, rfl⟩ ?_
      clear hK' K'  hE hw' w'
      refine wpE_call 40 rfl (by simp) rfl (fun w' hw' K' hK' => ?_) ?_
      · have hE := hw'.1
        go_step
        exact hK' _ _ ⟨_, rfl, _, rfl, heap_alloc_new w' _⟩ ((Ext.refl w').alloc _)
      rintro _ wB1 _ ⟨gB1, rfl, hB1⟩
      simp only [Act.put, List.setIfInBounds_toArray, List.set_cons_succ, List.set_cons_zero]
      refine wpE_op rfl rfl (fun w' hw' K' hK' => ?_)
      have hE := hw'.1
      go_step
      refine hK' _ ⟨_, rfl⟩ ?_
      clear hK' K'  hE hw' w'
      refine wpE_call 42 rfl (by simp) rfl (fun w' hw' K' hK' => ?_) ?_
      · have hM : Ext wB1 w' := hw'.2 40 wB1 (by simp [adds]) (by decide)
        go_step
        exact hK' _ _ ⟨_, rfl, ⟨gB1, 4, none⟩, rfl, by rw [cell_of_row _ _ 4 _ _ (0, 0) (hM.heap hB1)]; rfl⟩ (Ext.refl w')
      rintro _ wI1 _ ⟨pI1, rfl, hI1⟩
      simp only [Act.put, List.setIfInBounds_toArray, List.set_cons_succ, List.set_cons_zero]
      refine wpE_op rfl rfl (fun w' hw' K' hK' => ?_)
      have hE := hw'.1
      have hq := (hw'.2 42 wI1 (by simp [adds]) (by decide)).cell hI1
      go_step
      refine hK' _ ⟨_, rfl⟩ ?_
      clear hK' K' hq hE hw' w'
      refine wpE_call 44 rfl (by simp) rfl (fun w' hw' K' hK' => ?_) ?_
      · have hE := hw'.1
        go_step
        exact hK' _ _ ⟨_, rfl, _, rfl, heap_alloc_new w' _⟩ ((Ext.refl w').alloc _)
      rintro _ wB2 _ ⟨gB2, rfl, hB2⟩
      simp only [Act.put, List.setIfInBounds_toArray, List.set_cons_succ, List.set_cons_zero]
      refine wpE_op rfl rfl (fun w' hw' K' hK' => ?_)
      have hE := hw'.1
      go_step
      refine hK' _ ⟨_, rfl⟩ ?_
      clear hK' K'  hE hw' w'
      refine wpE_call 46 rfl (by simp) rfl (fun w' hw' K' hK' => ?_) ?_
      · have hM : Ext wB2 w' := hw'.2 44 wB2 (by simp [adds]) (by decide)
        go_step
        exact hK' _ _ ⟨_, rfl, ⟨gB2, 4, none⟩, rfl, by rw [cell_of_row _ _ 4 _ _ (0, 0) (hM.heap hB2)]; rfl⟩ (Ext.refl w')
      rintro _ wI2 _ ⟨pI2, rfl, hI2⟩
      simp only [Act.put, List.setIfInBounds_toArray, List.set_cons_succ, List.set_cons_zero]
      refine wpE_op rfl rfl (fun w' hw' K' hK' => ?_)
      have hE := hw'.1
      have hq := (hw'.2 46 wI2 (by simp [adds]) (by decide)).cell hI2
      go_step
      refine hK' _ ⟨_, rfl⟩ ?_
      clear hK' K' hq hE hw' w'
      refine wpE_call 48 rfl (by simp) rfl (fun w' hw' K' hK' => ?_) ?_
      · have hE := hw'.1
        go_step
        refine (result_no 143 (by decide) _ w').mono ?_
        rintro _ w2 ⟨rfl, hx⟩
        exact hK' _ _ ⟨_, rfl, rfl⟩ hx
      rintro _ w9 _ rfl
      simp only [Act.put, List.setIfInBounds_toArray, List.set_cons_succ, List.set_cons_zero]
      refine wpE_op rfl rfl (fun w' hw' K' hK' => ?_)
      have hE := hw'.1
      go_step
      refine hK' _ ⟨_, rfl⟩ ?_
      clear hK' K'  hE hw' w'
      refine wpE_nil (fun w5 ha => ?_)
      have hx5 : Ext wf w5 := (Ext.drew wf).trans ha.1
      clear ha
      have HX5 := Lib.hid (HXF.out.trans hx5); clear hx5
      go_wp2_with fail
      go_roundw
      case rel => exact ⟨5, by omega, by go_num, HX5.out⟩
      case measure => simp [intOf]
    · clear hr
      have HE := Lib.hid (HX.out.trans HXR.out)
      clear HX HXR HROW
      go_wp2_with fail
      obtain ⟨we, hwe⟩ : ∃ we, we = wr.alloc (.cells #[.int .i64 10, .int .i64 40, .int .i64 90, .int .i64 300] 23) := ⟨_, rfl⟩
      have hT5 : TB we wr.heap.size 10 40 90 300 := by rw [hwe]; exact heap_alloc_new wr _
      have hxe : Ext wr we := hwe ▸ (Ext.refl wr).alloc _
      rw [← hwe]
      clear hwe
      have HT5 := Lib.hid hT5; have HE := Lib.hid (HE.out.trans hxe)
      clear hT5 hxe
      refine wp_region_ext_edge 8 8 6 (fun i v' w' => match i with | 2 => v' = .agg #[.int .i64 100, .int .i64 1000] | 3 => v' = .tuple #[.agg #[.int .i64 10, .int .i64 50, .int .i64 90, .int .i64 300], .int .i64 0] | 7 => ∃ b, v' = .pointer (some ⟨b, 0, none⟩) ∧ w'.heap[b]? = some (.cells #[.int .i64 0, .int .i64 0, .int .i64 0, .int .i64 0] 23 (0, 0)) ∧ we.heap.size ≤ b | _ => False) (by kernel_rfl) (by kernel_rfl) (by kernel_rfl) ?_
      simp only [withEdge, List.getElem?_toArray, List.getElem?_cons_succ, List.getElem?_cons_zero, List.setIfInBounds_toArray, List.set_cons_succ, List.set_cons_zero, List.push_toArray, List.cons_append, List.nil_append, List.toList_toArray, List.take_succ_cons, List.take_zero, List.drop_succ_cons, List.drop_zero]
      refine wpE_op rfl rfl (fun w' hw' K' hK' => ?_)
      have hE := hw'.1
      obtain ⟨q0, q1, q2, q3⟩ := (HT5.out.ext ((Ext.drew we).trans hE)).cells
      go_step
      refine hK' _ ⟨_, rfl⟩ ?_
      clear hK' K' q0 q1 q2 q3 hE hw' w'
      refine wpE_op rfl rfl (fun w' hw' K' hK' => ?_)
      have hE := hw'.1
      go_step
      refine hK' _ ⟨_, rfl⟩ ?_
      clear hK' K'  hE hw' w'
      refine wpE_call 55 rfl (by simp) rfl (fun w' hw' K' hK' => ?_) ?_
      · have hE := hw'.1
        go_step
        refine (limits_at w').mono ?_
        rintro _ w2 ⟨rfl, hx⟩
        exact hK' _ _ ⟨_, rfl, rfl⟩ hx
      rintro _ w7 _ rfl
      simp only [Act.put, List.setIfInBounds_toArray, List.set_cons_succ, List.set_cons_zero]
      refine wpE_call 56 rfl (by simp) rfl (fun w' hw' K' hK' => ?_) ?_
      · have hE := hw'.1
        go_step
        refine (Derive_is 10 40 90 300 0 0 400 100 1000 50 5 10 50 90 300 0 (by decide) w').mono ?_
        rintro _ w2 ⟨rfl, hx⟩
        exact hK' _ _ ⟨_, rfl, rfl⟩ hx
      rintro _ w8 _ rfl
      simp only [Act.put, List.setIfInBounds_toArray, List.set_cons_succ, List.set_cons_zero]
      refine wpE_op rfl rfl (fun w' hw' K' hK' => ?_)
      have hE := hw'.1
      go_step
      refine hK' _ ⟨_, rfl⟩ ?_
      clear hK' K'  hE hw' w'
      refine wpE_op rfl rfl (fun w' hw' K' hK' => ?_)
      have hE := hw'.1
      go_step
      refine hK' _ ⟨_, rfl⟩ ?_
      clear hK' K'  hE hw' w'
      refine wpE_op rfl rfl (fun w' hw' K' hK' => ?_)
      have hE := hw'.1
      go_step
      refine hK' _ ⟨_, rfl⟩ ?_
      clear hK' K'  hE hw' w'
      refine wpE_call 6 rfl (by simp) rfl (fun w' hw' K' hK' => ?_) ?_
      · have hE := hw'.1
        go_step
        exact hK' _ _ ⟨_, rfl, _, rfl, heap_alloc_new w' _, ((Ext.drew we).trans hE).size⟩ ((Ext.refl w').alloc _)
      rintro _ wA _ ⟨bs6, rfl, hTA, hbs6⟩
      change TB wA bs6 0 0 0 0 at hTA
      simp only [Act.put, List.setIfInBounds_toArray, List.set_cons_succ, List.set_cons_zero]
      refine wpE_nil (fun w3 ha => ?_)
      have hx3 : Ext we w3 := (Ext.drew we).trans ha.1
      have hT3 := hTA.ext (ha.2 6 wA (by simp [adds]))
      obtain ⟨c0, c1, c2, c3⟩ := hT3.cells
      have f0 := hT3.soft 0; have f1 := hT3.soft 1; have f2 := hT3.soft 2; have f3 := hT3.soft 3
      have HT3 := Lib.hid hT3; have HX3 := Lib.hid hx3
      clear ha hTA hT3 hx3
      go_wp2_with fail
      refine ⟨rfl, ?_⟩
      go_wp2_with fail
      obtain ⟨wg, hwf⟩ : ∃ wf, wf = (((w3.setCell ⟨bs6, 0, none⟩ (.int .i64 10)).setCell ⟨bs6, 1, none⟩ (.int .i64 50)).setCell ⟨bs6, 2, none⟩ (.int .i64 90)).setCell ⟨bs6, 3, none⟩ (.int .i64 300) := ⟨_, rfl⟩
      have hTF : TB wg bs6 10 50 90 300 := by rw [hwf]; exact HT3.out.put _ _ _ _
      have hxf : Ext we wg := by rw [hwf]; exact ext4 HX3.out hbs6 _ _ _ _
      rw [← hwf]
      clear hwf c0 c1 c2 c3 f0 f1 f2 f3 HT3 HX3
      have HTs6 := Lib.hid hTF; have HE := Lib.hid (HE.out.trans hxf)
      have HT5 := Lib.hid (HT5.out.ext hxf)
      clear hTF hxf
      refine wp_region_ext_edge 8 8 6 (fun i v' w' => match i with | 2 => v' = .agg #[.int .i64 100, .int .i64 1000] | 3 => v' = .tuple #[.agg #[.int .i64 10, .int .i64 50, .int .i64 80, .int .i64 0], .int .i64 0] | 7 => ∃ b, v' = .pointer (some ⟨b, 0, none⟩) ∧ w'.heap[b]? = some (.cells #[.int .i64 0, .int .i64 0, .int .i64 0, .int .i64 0] 23 (0, 0)) ∧ wg.heap.size ≤ b | _ => False) (by kernel_rfl) (by kernel_rfl) (by kernel_rfl) ?_
      simp only [withEdge, List.getElem?_toArray, List.getElem?_cons_succ, List.getElem?_cons_zero, List.setIfInBounds_toArray, List.set_cons_succ, List.set_cons_zero, List.push_toArray, List.cons_append, List.nil_append, List.toList_toArray, List.take_succ_cons, List.take_zero, List.drop_succ_cons, List.drop_zero]
      refine wpE_op rfl rfl (fun w' hw' K' hK' => ?_)
      have hE := hw'.1
      obtain ⟨q0, q1, q2, q3⟩ := (HT5.out.ext ((Ext.drew wg).trans hE)).cells
      go_step
      refine hK' _ ⟨_, rfl⟩ ?_
      clear hK' K' q0 q1 q2 q3 hE hw' w'
      refine wpE_op rfl rfl (fun w' hw' K' hK' => ?_)
      have hE := hw'.1
      go_step
      refine hK' _ ⟨_, rfl⟩ ?_
      clear hK' K'  hE hw' w'
      refine wpE_call 62 rfl (by simp) rfl (fun w' hw' K' hK' => ?_) ?_
      · have hE := hw'.1
        go_step
        refine (limits_at w').mono ?_
        rintro _ w2 ⟨rfl, hx⟩
        exact hK' _ _ ⟨_, rfl, rfl⟩ hx
      rintro _ w7 _ rfl
      simp only [Act.put, List.setIfInBounds_toArray, List.set_cons_succ, List.set_cons_zero]
      refine wpE_call 63 rfl (by simp) rfl (fun w' hw' K' hK' => ?_) ?_
      · have hE := hw'.1
        go_step
        refine (Derive_is 10 40 90 300 0 80 60 100 1000 50 5 10 50 80 0 0 (by decide) w').mono ?_
        rintro _ w2 ⟨rfl, hx⟩
        exact hK' _ _ ⟨_, rfl, rfl⟩ hx
      rintro _ w8 _ rfl
      simp only [Act.put, List.setIfInBounds_toArray, List.set_cons_succ, List.set_cons_zero]
      refine wpE_op rfl rfl (fun w' hw' K' hK' => ?_)
      have hE := hw'.1
      go_step
      refine hK' _ ⟨_, rfl⟩ ?_
      clear hK' K'  hE hw' w'
      refine wpE_op rfl rfl (fun w' hw' K' hK' => ?_)
      have hE := hw'.1
      go_step
      refine hK' _ ⟨_, rfl⟩ ?_
      clear hK' K'  hE hw' w'
      refine wpE_op rfl rfl (fun w' hw' K' hK' => ?_)
      have hE := hw'.1
      go_step
      refine hK' _ ⟨_, rfl⟩ ?_
      clear hK' K'  hE hw' w'
      refine wpE_call 8 rfl (by simp) rfl (fun w' hw' K' hK' => ?_) ?_
      · have hE := hw'.1
        go_step
        exact hK' _ _ ⟨_, rfl, _, rfl, heap_alloc_new w' _, ((Ext.drew wg).trans hE).size⟩ ((Ext.refl w').alloc _)
      rintro _ wA _ ⟨bs8, rfl, hTA, hbs8⟩
      change TB wA bs8 0 0 0 0 at hTA
      simp only [Act.put, List.setIfInBounds_toArray, List.set_cons_succ, List.set_cons_zero]
      refine wpE_nil (fun w3 ha => ?_)
      have hx3 : Ext wg w3 := (Ext.drew wg).trans ha.1
      have hT3 := hTA.ext (ha.2 8 wA (by simp [adds]))
      obtain ⟨c0, c1, c2, c3⟩ := hT3.cells
      have f0 := hT3.soft 0; have f1 := hT3.soft 1; have f2 := hT3.soft 2; have f3 := hT3.soft 3
      have HT3 := Lib.hid hT3; have HX3 := Lib.hid hx3
      clear ha hTA hT3 hx3
      go_wp2_with fail
      refine ⟨rfl, ?_⟩
      go_wp2_with fail
      obtain ⟨wh, hwf⟩ : ∃ wf, wf = (((w3.setCell ⟨bs8, 0, none⟩ (.int .i64 10)).setCell ⟨bs8, 1, none⟩ (.int .i64 50)).setCell ⟨bs8, 2, none⟩ (.int .i64 80)).setCell ⟨bs8, 3, none⟩ (.int .i64 0) := ⟨_, rfl⟩
      have hTF : TB wh bs8 10 50 80 0 := by rw [hwf]; exact HT3.out.put _ _ _ _
      have hxf : Ext wg wh := by rw [hwf]; exact ext4 HX3.out hbs8 _ _ _ _
      rw [← hwf]
      clear hwf c0 c1 c2 c3 f0 f1 f2 f3 HT3 HX3
      have HTs8 := Lib.hid hTF; have HE := Lib.hid (HE.out.trans hxf)
      have HT5 := Lib.hid (HT5.out.ext hxf)
      have HTs6 := Lib.hid (HTs6.out.ext hxf)
      clear hTF hxf
      go_wp2_with fail
      refine (limits_at _).mono ?_
      rintro _ w11 ⟨rfl, hx11⟩
      go_wp2_with fail
      refine (Derive_is 10 40 44 0 0 0 0 100 1000 50 5 0 0 0 0 141 (by decide) _).mono ?_
      rintro _ w12 ⟨rfl, hx12⟩
      have HA := Lib.hid (hx11.trans hx12)
      clear hx11 hx12
      go_wp2_with fail
      refine (limits_at _).mono ?_
      rintro _ w13 ⟨rfl, hx13⟩
      go_wp2_with fail
      refine (Derive_is 10 56 90 0 0 0 0 100 1000 50 5 0 0 0 0 140 (by decide) _).mono ?_
      rintro _ w14 ⟨rfl, hx14⟩
      have hTa : TB (w12.alloc (.cells #[.int .i64 0, .int .i64 0, .int .i64 0, .int .i64 0] 23)) w12.heap.size 0 0 0 0 := heap_alloc_new w12 _
      have hxc := (hx13.trans hx14).trans ((Ext.refl w14).alloc (.cells #[.int .i64 0, .int .i64 0, .int .i64 0, .int .i64 0] 23))
      have hTc : TB (w14.alloc (.cells #[.int .i64 0, .int .i64 0, .int .i64 0, .int .i64 0] 23)) w14.heap.size 0 0 0 0 := heap_alloc_new w14 _
      have hTa := hTa.ext hxc
      have hxd := (HA.out.alloc (.cells #[.int .i64 0, .int .i64 0, .int .i64 0, .int .i64 0] 23)).trans hxc
      have hT6 := HTs6.out.ext hxd
      have hT8 := HTs8.out.ext hxd
      have HE := Lib.hid (HE.out.trans hxd)
      obtain ⟨c0, c1, c2, c3⟩ := hT6.cells
      have HTa := Lib.hid hTa; have HTc := Lib.hid hTc; have HT8 := Lib.hid hT8
      clear hTa hTc hT6 hT8 hx13 hx14 hxc hxd HA HT5 HTs6 HTs8
      go_wp2_with fail
      refine (result_yes 10 50 90 300 (by decide) [49, 48, 32, 53, 48, 32, 57, 48, 32, 51, 48, 48] (by simp [textT, wordsT, Lib.join, List.intercalate, Lib.itoa, dec_lt, dec_ge]) _ (HP.out.ext HE.out)).mono ?_
      rintro _ w16 ⟨rfl, hx⟩
      obtain ⟨c0, c1, c2, c3⟩ := (HT8.out.ext hx).cells
      have HTa := Lib.hid (HTa.out.ext hx); have HTc := Lib.hid (HTc.out.ext hx); have HE := Lib.hid (HE.out.trans hx)
      clear hx HT8
      go_wp2_with fail
      refine (result_yes 10 50 80 0 (by decide) [49, 48, 32, 53, 48, 32, 56, 48, 32, 48] (by simp [textT, wordsT, Lib.join, List.intercalate, Lib.itoa, dec_lt, dec_ge]) _ (HP.out.ext HE.out)).mono ?_
      rintro _ w17 ⟨rfl, hx⟩
      obtain ⟨c0, c1, c2, c3⟩ := (HTa.out.ext hx).cells
      have HTc := Lib.hid (HTc.out.ext hx); have HE := Lib.hid (HE.out.trans hx)
      clear hx HTa
      go_wp2_with fail
      refine (result_no 141 (by decide) _ _).mono ?_
      rintro _ w18 ⟨rfl, hx⟩
      obtain ⟨c0, c1, c2, c3⟩ := (HTc.out.ext hx).cells
      have HE := Lib.hid (HE.out.trans hx)
      clear hx HTc
      go_wp2_with fail
      refine (result_no 140 (by decide) _ _).mono ?_
      rintro _ w19 ⟨rfl, hx⟩
      have HE := Lib.hid (HE.out.trans hx)
      clear hx c0 c1 c2 c3
      go_wp2_with fail
      obtain ⟨W2, hW2⟩ : ∃ W2, W2 = w19.alloc (.cells #[.int .i64 10, .int .i64 20, .int .i64 90, .int .i64 300, .int .i64 10, .int .i64 20, .int .i64 90, .int .i64 100, .int .i64 10, .int .i64 20, .int .i64 90, .int .i64 0] 23) := ⟨_, rfl⟩
      have hrow : W2.heap[w19.heap.size]? = some (.cells #[.int .i64 10, .int .i64 20, .int .i64 90, .int .i64 300, .int .i64 10, .int .i64 20, .int .i64 90, .int .i64 100, .int .i64 10, .int .i64 20, .int .i64 90, .int .i64 0] 23) := by rw [hW2]; exact heap_alloc_new w19 _
      have hx0 : Ext w19 W2 := hW2 ▸ (Ext.refl w19).alloc _
      rw [← hW2]
      clear hW2
      have HROW := Lib.hid hrow; have HE := Lib.hid (HE.out.trans hx0)
      clear hrow hx0
      go_loopw [107] (fun i wr2 => ∃ k : Nat, k ≤ 3 ∧ i = .int .i64 k ∧ Ext W2 wr2) (fun i _ => 3 - (intOf i).toNat)
      case atStart => exact ⟨0, by omega, rfl, Ext.refl _⟩
      case round =>
        obtain ⟨k, hk, rfl, hx⟩ := hrel
        have hr := hx.heap HROW.out
        have HXR := Lib.hid hx; clear hx
        rcases (show k = 0 ∨ k = 1 ∨ k = 2 ∨ k = 3 by omega) with rfl | rfl | rfl | rfl
        · skip
          have q0 : wr.cell? ⟨w19.heap.size, 0, none⟩ = some (.int .i64 10) := by rw [cell_of_row _ _ 0 _ _ (0, 0) hr]; rfl
          have q1 : wr.cell? ⟨w19.heap.size, 1, none⟩ = some (.int .i64 20) := by rw [cell_of_row _ _ 1 _ _ (0, 0) hr]; rfl
          have q2 : wr.cell? ⟨w19.heap.size, 2, none⟩ = some (.int .i64 90) := by rw [cell_of_row _ _ 2 _ _ (0, 0) hr]; rfl
          have q3 : wr.cell? ⟨w19.heap.size, 3, none⟩ = some (.int .i64 300) := by rw [cell_of_row _ _ 3 _ _ (0, 0) hr]; rfl
          clear hr
          go_wp2_with fail
          refine (Renew_is 10 20 90 300 50 5 10 50 120 300 0 (by decide) _).mono ?_
          rintro _ w21 ⟨rfl, hx21⟩
          have HXR2 := Lib.hid ((HXR.out.alloc _).trans hx21)
          clear hx21 q0 q1 q2 q3
          go_wp2_with fail
          obtain ⟨wf, hwf⟩ : ∃ wf, wf = w21.alloc (.cells #[.int .i64 10, .int .i64 50, .int .i64 120, .int .i64 300] 23) := ⟨_, rfl⟩
          have hTF : TB wf w21.heap.size 10 50 120 300 := by rw [hwf]; exact heap_alloc_new w21 _
          have hxf : Ext w21 wf := hwf ▸ (Ext.refl w21).alloc _
          rw [← hwf]
          clear hwf
          have HTF := Lib.hid hTF; have HXF := Lib.hid (HXR2.out.trans hxf)
          clear hTF hxf
          refine wp_region_ext (fun i v' w' => match i with | 2 => ∃ g, v' = .slice (some ⟨g, 0, none⟩) 3 3 ∧ w'.heap[g]? = some (.cells #[.string ⟨#[49, 48, 32, 53, 48, 32, 49, 50, 48, 32, 51, 48, 48]⟩, .string ⟨#[49, 48, 32, 53, 48, 32, 49, 48, 48, 32, 49, 48, 48]⟩, .string ⟨#[]⟩] 9 (0, 0)) | 4 => ∃ p, v' = .pointer (some p) ∧ w'.cell? p = some (.string ⟨#[49, 48, 32, 53, 48, 32, 49, 50, 48, 32, 51, 48, 48]⟩) | 6 => ∃ g, v' = .slice (some ⟨g, 0, none⟩) 3 3 ∧ w'.heap[g]? = some (.cells #[.int .i64 0, .int .i64 0, .int .i64 142] 27 (0, 0)) | 8 => ∃ p, v' = .pointer (some p) ∧ w'.cell? p = some (.int .i64 0) | 10 => v' = .bool true | _ => False) (by kernel_rfl) (by kernel_rfl) ?_
          refine wpE_op rfl rfl (fun w' hw' K' hK' => ?_)
          have hE := hw'.1
          obtain ⟨q0, q1, q2, q3⟩ := (HTF.out.ext ((Ext.drew wf).trans hE)).cells
          go_step
          refine hK' _ ⟨_, rfl⟩ ?_
          clear hK' K' q0 q1 q2 q3 hE hw' w'
          refine wpE_op rfl rfl (fun w' hw' K' hK' => ?_)
          have hE := hw'.1
          go_step
          refine hK' _ ⟨_, rfl⟩ ?_
          clear hK' K'  hE hw' w'
          refine wpE_call 119 rfl (by simp) rfl (fun w' hw' K' hK' => ?_) ?_
          · have hE := hw'.1
            go_step
            exact hK' _ _ ⟨_, rfl, _, rfl, heap_alloc_new w' _⟩ ((Ext.refl w').alloc _)
          rintro _ wB1 _ ⟨gB1, rfl, hB1⟩
          simp only [Act.put, List.setIfInBounds_toArray, List.set_cons_succ, List.set_cons_zero]
          refine wpE_op rfl rfl (fun w' hw' K' hK' => ?_)
          have hE := hw'.1
          go_step
          refine hK' _ ⟨_, rfl⟩ ?_
          clear hK' K'  hE hw' w'
          refine wpE_call 121 rfl (by simp) rfl (fun w' hw' K' hK' => ?_) ?_
          · have hM : Ext wB1 w' := hw'.2 119 wB1 (by simp [adds]) (by decide)
            go_step
            exact hK' _ _ ⟨_, rfl, ⟨gB1, 0, none⟩, rfl, by rw [cell_of_row _ _ 0 _ _ (0, 0) (hM.heap hB1)]; rfl⟩ (Ext.refl w')
          rintro _ wI1 _ ⟨pI1, rfl, hI1⟩
          simp only [Act.put, List.setIfInBounds_toArray, List.set_cons_succ, List.set_cons_zero]
          refine wpE_op rfl rfl (fun w' hw' K' hK' => ?_)
          have hE := hw'.1
          have hq := (hw'.2 121 wI1 (by simp [adds]) (by decide)).cell hI1
          go_step
          refine hK' _ ⟨_, rfl⟩ ?_
          clear hK' K' hq hE hw' w'
          refine wpE_call 123 rfl (by simp) rfl (fun w' hw' K' hK' => ?_) ?_
          · have hE := hw'.1
            go_step
            exact hK' _ _ ⟨_, rfl, _, rfl, heap_alloc_new w' _⟩ ((Ext.refl w').alloc _)
          rintro _ wB2 _ ⟨gB2, rfl, hB2⟩
          simp only [Act.put, List.setIfInBounds_toArray, List.set_cons_succ, List.set_cons_zero]
          refine wpE_op rfl rfl (fun w' hw' K' hK' => ?_)
          have hE := hw'.1
          go_step
          refine hK' _ ⟨_, rfl⟩ ?_
          clear hK' K'  hE hw' w'
          refine wpE_call 125 rfl (by simp) rfl (fun w' hw' K' hK' => ?_) ?_
          · have hM : Ext wB2 w' := hw'.2 123 wB2 (by simp [adds]) (by decide)
            go_step
            exact hK' _ _ ⟨_, rfl, ⟨gB2, 0, none⟩, rfl, by rw [cell_of_row _ _ 0 _ _ (0, 0) (hM.heap hB2)]; rfl⟩ (Ext.refl w')
          rintro _ wI2 _ ⟨pI2, rfl, hI2⟩
          simp only [Act.put, List.setIfInBounds_toArray, List.set_cons_succ, List.set_cons_zero]
          refine wpE_op rfl rfl (fun w' hw' K' hK' => ?_)
          have hE := hw'.1
          have hq := (hw'.2 125 wI2 (by simp [adds]) (by decide)).cell hI2
          go_step
          refine hK' _ ⟨_, rfl⟩ ?_
          clear hK' K' hq hE hw' w'
          refine wpE_call 127 rfl (by simp) rfl (fun w' hw' K' hK' => ?_) ?_
          · have hE := hw'.1
            go_step
            refine (result_yes 10 50 120 300 (by decide) [49, 48, 32, 53, 48, 32, 49, 50, 48, 32, 51, 48, 48] (by simp [textT, wordsT, Lib.join, List.intercalate, Lib.itoa, dec_lt, dec_ge]) w' (HP.out.ext ((HE.out.trans HXF.out).trans ((Ext.drew wf).trans hE)))).mono ?_
            rintro _ w2 ⟨rfl, hx⟩
            exact hK' _ _ ⟨_, rfl, rfl⟩ hx
          rintro _ w9 _ rfl
          simp only [Act.put, List.setIfInBounds_toArray, List.set_cons_succ, List.set_cons_zero]
          refine wpE_op rfl rfl (fun w' hw' K' hK' => ?_)
          have hE := hw'.1
          go_step
          refine hK' _ ⟨_, rfl⟩ ?_
          clear hK' K'  hE hw' w'
          refine wpE_nil (fun w5 ha => ?_)
          have hx5 : Ext wf w5 := (Ext.drew wf).trans ha.1
          clear ha
          have HX5 := Lib.hid (HXF.out.trans hx5); clear hx5
          go_wp2_with fail
          go_roundw
          case rel => exact ⟨1, by omega, by go_num, HX5.out⟩
          case measure => simp [intOf]
        · skip
          have q0 : wr.cell? ⟨w19.heap.size, 4, none⟩ = some (.int .i64 10) := by rw [cell_of_row _ _ 4 _ _ (0, 0) hr]; rfl
          have q1 : wr.cell? ⟨w19.heap.size, 5, none⟩ = some (.int .i64 20) := by rw [cell_of_row _ _ 5 _ _ (0, 0) hr]; rfl
          have q2 : wr.cell? ⟨w19.heap.size, 6, none⟩ = some (.int .i64 90) := by rw [cell_of_row _ _ 6 _ _ (0, 0) hr]; rfl
          have q3 : wr.cell? ⟨w19.heap.size, 7, none⟩ = some (.int .i64 100) := by rw [cell_of_row _ _ 7 _ _ (0, 0) hr]; rfl
          clear hr
          go_wp2_with fail
          refine (Renew_is 10 20 90 100 50 5 10 50 100 100 0 (by decide) _).mono ?_
          rintro _ w21 ⟨rfl, hx21⟩
          have HXR2 := Lib.hid ((HXR.out.alloc _).trans hx21)
          clear hx21 q0 q1 q2 q3
          go_wp2_with fail
          obtain ⟨wf, hwf⟩ : ∃ wf, wf = w21.alloc (.cells #[.int .i64 10, .int .i64 50, .int .i64 100, .int .i64 100] 23) := ⟨_, rfl⟩
          have hTF : TB wf w21.heap.size 10 50 100 100 := by rw [hwf]; exact heap_alloc_new w21 _
          have hxf : Ext w21 wf := hwf ▸ (Ext.refl w21).alloc _
          rw [← hwf]
          clear hwf
          have HTF := Lib.hid hTF; have HXF := Lib.hid (HXR2.out.trans hxf)
          clear hTF hxf
          refine wp_region_ext (fun i v' w' => match i with | 2 => ∃ g, v' = .slice (some ⟨g, 0, none⟩) 3 3 ∧ w'.heap[g]? = some (.cells #[.string ⟨#[49, 48, 32, 53, 48, 32, 49, 50, 48, 32, 51, 48, 48]⟩, .string ⟨#[49, 48, 32, 53, 48, 32, 49, 48, 48, 32, 49, 48, 48]⟩, .string ⟨#[]⟩] 9 (0, 0)) | 4 => ∃ p, v' = .pointer (some p) ∧ w'.cell? p = some (.string ⟨#[49, 48, 32, 53, 48, 32, 49, 48, 48, 32, 49, 48, 48]⟩) | 6 => ∃ g, v' = .slice (some ⟨g, 0, none⟩) 3 3 ∧ w'.heap[g]? = some (.cells #[.int .i64 0, .int .i64 0, .int .i64 142] 27 (0, 0)) | 8 => ∃ p, v' = .pointer (some p) ∧ w'.cell? p = some (.int .i64 0) | 10 => v' = .bool true | _ => False) (by kernel_rfl) (by kernel_rfl) ?_
          refine wpE_op rfl rfl (fun w' hw' K' hK' => ?_)
          have hE := hw'.1
          obtain ⟨q0, q1, q2, q3⟩ := (HTF.out.ext ((Ext.drew wf).trans hE)).cells
          go_step
          refine hK' _ ⟨_, rfl⟩ ?_
          clear hK' K' q0 q1 q2 q3 hE hw' w'
          refine wpE_op rfl rfl (fun w' hw' K' hK' => ?_)
          have hE := hw'.1
          go_step
          refine hK' _ ⟨_, rfl⟩ ?_
          clear hK' K'  hE hw' w'
          refine wpE_call 119 rfl (by simp) rfl (fun w' hw' K' hK' => ?_) ?_
          · have hE := hw'.1
            go_step
            exact hK' _ _ ⟨_, rfl, _, rfl, heap_alloc_new w' _⟩ ((Ext.refl w').alloc _)
          rintro _ wB1 _ ⟨gB1, rfl, hB1⟩
          simp only [Act.put, List.setIfInBounds_toArray, List.set_cons_succ, List.set_cons_zero]
          refine wpE_op rfl rfl (fun w' hw' K' hK' => ?_)
          have hE := hw'.1
          go_step
          refine hK' _ ⟨_, rfl⟩ ?_
          clear hK' K'  hE hw' w'
          refine wpE_call 121 rfl (by simp) rfl (fun w' hw' K' hK' => ?_) ?_
          · have hM : Ext wB1 w' := hw'.2 119 wB1 (by simp [adds]) (by decide)
            go_step
            exact hK' _ _ ⟨_, rfl, ⟨gB1, 1, none⟩, rfl, by rw [cell_of_row _ _ 1 _ _ (0, 0) (hM.heap hB1)]; rfl⟩ (Ext.refl w')
          rintro _ wI1 _ ⟨pI1, rfl, hI1⟩
          simp only [Act.put, List.setIfInBounds_toArray, List.set_cons_succ, List.set_cons_zero]
          refine wpE_op rfl rfl (fun w' hw' K' hK' => ?_)
          have hE := hw'.1
          have hq := (hw'.2 121 wI1 (by simp [adds]) (by decide)).cell hI1
          go_step
          refine hK' _ ⟨_, rfl⟩ ?_
          clear hK' K' hq hE hw' w'
          refine wpE_call 123 rfl (by simp) rfl (fun w' hw' K' hK' => ?_) ?_
          · have hE := hw'.1
            go_step
            exact hK' _ _ ⟨_, rfl, _, rfl, heap_alloc_new w' _⟩ ((Ext.refl w').alloc _)
          rintro _ wB2 _ ⟨gB2, rfl, hB2⟩
          simp only [Act.put, List.setIfInBounds_toArray, List.set_cons_succ, List.set_cons_zero]
          refine wpE_op rfl rfl (fun w' hw' K' hK' => ?_)
          have hE := hw'.1
          go_step
          refine hK' _ ⟨_, rfl⟩ ?_
          clear hK' K'  hE hw' w'
          refine wpE_call 125 rfl (by simp) rfl (fun w' hw' K' hK' => ?_) ?_
          · have hM : Ext wB2 w' := hw'.2 123 wB2 (by simp [adds]) (by decide)
            go_step
            exact hK' _ _ ⟨_, rfl, ⟨gB2, 1, none⟩, rfl, by rw [cell_of_row _ _ 1 _ _ (0, 0) (hM.heap hB2)]; rfl⟩ (Ext.refl w')
          rintro _ wI2 _ ⟨pI2, rfl, hI2⟩
          simp only [Act.put, List.setIfInBounds_toArray, List.set_cons_succ, List.set_cons_zero]
          refine wpE_op rfl rfl (fun w' hw' K' hK' => ?_)
          have hE := hw'.1
          have hq := (hw'.2 125 wI2 (by simp [adds]) (by decide)).cell hI2
          go_step
          refine hK' _ ⟨_, rfl⟩ ?_
          clear hK' K' hq hE hw' w'
          refine wpE_call 127 rfl (by simp) rfl (fun w' hw' K' hK' => ?_) ?_
          · have hE := hw'.1
            go_step
            refine (result_yes 10 50 100 100 (by decide) [49, 48, 32, 53, 48, 32, 49, 48, 48, 32, 49, 48, 48] (by simp [textT, wordsT, Lib.join, List.intercalate, Lib.itoa, dec_lt, dec_ge]) w' (HP.out.ext ((HE.out.trans HXF.out).trans ((Ext.drew wf).trans hE)))).mono ?_
            rintro _ w2 ⟨rfl, hx⟩
            exact hK' _ _ ⟨_, rfl, rfl⟩ hx
          rintro _ w9 _ rfl
          simp only [Act.put, List.setIfInBounds_toArray, List.set_cons_succ, List.set_cons_zero]
          refine wpE_op rfl rfl (fun w' hw' K' hK' => ?_)
          have hE := hw'.1
          go_step
          refine hK' _ ⟨_, rfl⟩ ?_
          clear hK' K'  hE hw' w'
          refine wpE_nil (fun w5 ha => ?_)
          have hx5 : Ext wf w5 := (Ext.drew wf).trans ha.1
          clear ha
          have HX5 := Lib.hid (HXF.out.trans hx5); clear hx5
          go_wp2_with fail
          go_roundw
          case rel => exact ⟨2, by omega, by go_num, HX5.out⟩
          case measure => simp [intOf]
        · skip
          have q0 : wr.cell? ⟨w19.heap.size, 8, none⟩ = some (.int .i64 10) := by rw [cell_of_row _ _ 8 _ _ (0, 0) hr]; rfl
          have q1 : wr.cell? ⟨w19.heap.size, 9, none⟩ = some (.int .i64 20) := by rw [cell_of_row _ _ 9 _ _ (0, 0) hr]; rfl
          have q2 : wr.cell? ⟨w19.heap.size, 10, none⟩ = some (.int .i64 90) := by rw [cell_of_row _ _ 10 _ _ (0, 0) hr]; rfl
          have q3 : wr.cell? ⟨w19.heap.size, 11, none⟩ = some (.int .i64 0) := by rw [cell_of_row _ _ 11 _ _ (0, 0) hr]; rfl
          clear hr
          go_wp2_with fail
          refine (Renew_is 10 20 90 0 50 5 0 0 0 0 142 (by decide) _).mono ?_
          rintro _ w21 ⟨rfl, hx21⟩
          have HXR2 := Lib.hid ((HXR.out.alloc _).trans hx21)
          clear hx21 q0 q1 q2 q3
          go_wp2_with fail
          obtain ⟨wf, hwf⟩ : ∃ wf, wf = w21.alloc (.cells #[.int .i64 0, .int .i64 0, .int .i64 0, .int .i64 0] 23) := ⟨_, rfl⟩
          have hTF : TB wf w21.heap.size 0 0 0 0 := by rw [hwf]; exact heap_alloc_new w21 _
          have hxf : Ext w21 wf := hwf ▸ (Ext.refl w21).alloc _
          rw [← hwf]
          clear hwf
          have HTF := Lib.hid hTF; have HXF := Lib.hid (HXR2.out.trans hxf)
          clear hTF hxf
          refine wp_region_ext (fun i v' w' => match i with | 2 => ∃ g, v' = .slice (some ⟨g, 0, none⟩) 3 3 ∧ w'.heap[g]? = some (.cells #[.string ⟨#[49, 48, 32, 53, 48, 32, 49, 50, 48, 32, 51, 48, 48]⟩, .string ⟨#[49, 48, 32, 53, 48, 32, 49, 48, 48, 32, 49, 48, 48]⟩, .string ⟨#[]⟩] 9 (0, 0)) | 4 => ∃ p, v' = .pointer (some p) ∧ w'.cell? p = some (.string ⟨#[]⟩) | 6 => ∃ g, v' = .slice (some ⟨g, 0, none⟩) 3 3 ∧ w'.heap[g]? = some (.cells #[.int .i64 0, .int .i64 0, .int .i64 142] 27 (0, 0)) | 8 => ∃ p, v' = .pointer (some p) ∧ w'.cell? p = some (.int .i64 142) | 10 => v' = .bool true | _ => False) (by kernel_rfl) (by kernel_rfl) ?_
          refine wpE_op rfl rfl (fun w' hw' K' hK' => ?_)
          have hE := hw'.1
          obtain ⟨q0, q1, q2, q3⟩ := (HTF.out.ext ((Ext.drew wf).trans hE)).cells
          go_step
          refine hK' _ ⟨_, rfl⟩ ?_
          clear hK' K' q0 q1 q2 q3 hE hw' w'
          refine wpE_op rfl rfl (fun w' hw' K' hK' => ?_)
          have hE := hw'.1
          go_step
          refine hK' _ ⟨_, rfl⟩ ?_
          clear hK' K'  hE hw' w'
          refine wpE_call 119 rfl (by simp) rfl (fun w' hw' K' hK' => ?_) ?_
          · have hE := hw'.1
            go_step
            exact hK' _ _ ⟨_, rfl, _, rfl, heap_alloc_new w' _⟩ ((Ext.refl w').alloc _)
          rintro _ wB1 _ ⟨gB1, rfl, hB1⟩
          simp only [Act.put, List.setIfInBounds_toArray, List.set_cons_succ, List.set_cons_zero]
          refine wpE_op rfl rfl (fun w' hw' K' hK' => ?_)
          have hE := hw'.1
          go_step
          refine hK' _ ⟨_, rfl⟩ ?_
          clear hK' K'  hE hw' w'
          refine wpE_call 121 rfl (by simp) rfl (fun w' hw' K' hK' => ?_) ?_
          · have hM : Ext wB1 w' := hw'.2 119 wB1 (by simp [adds]) (by decide)
            go_step
            exact hK' _ _ ⟨_, rfl, ⟨gB1, 2, none⟩, rfl, by rw [cell_of_row _ _ 2 _ _ (0, 0) (hM.heap hB1)]; rfl⟩ (Ext.refl w')
          rintro _ wI1 _ ⟨pI1, rfl, hI1⟩
          simp only [Act.put, List.setIfInBounds_toArray, List.set_cons_succ, List.set_cons_zero]
          refine wpE_op rfl rfl (fun w' hw' K' hK' => ?_)
          have hE := hw'.1
          have hq := (hw'.2 121 wI1 (by simp [adds]) (by decide)).cell hI1
          go_step
          refine hK' _ ⟨_, rfl⟩ ?_
          clear hK' K' hq hE hw' w'
          refine wpE_call 123 rfl (by simp) rfl (fun w' hw' K' hK' => ?_) ?_
          · have hE := hw'.1
            go_step
            exact hK' _ _ ⟨_, rfl, _, rfl, heap_alloc_new w' _⟩ ((Ext.refl w').alloc _)
          rintro _ wB2 _ ⟨gB2, rfl, hB2⟩
          simp only [Act.put, List.setIfInBounds_toArray, List.set_cons_succ, List.set_cons_zero]
          refine wpE_op rfl rfl (fun w' hw' K' hK' => ?_)
          have hE := hw'.1
          go_step
          refine hK' _ ⟨_, rfl⟩ ?_
          clear hK' K'  hE hw' w'
          refine wpE_call 125 rfl (by simp) rfl (fun w' hw' K' hK' => ?_) ?_
          · have hM : Ext wB2 w' := hw'.2 123 wB2 (by simp [adds]) (by decide)
            go_step
            exact hK' _ _ ⟨_, rfl, ⟨gB2, 2, none⟩, rfl, by rw [cell_of_row _ _ 2 _ _ (0, 0) (hM.heap hB2)]; rfl⟩ (Ext.refl w')
          rintro _ wI2 _ ⟨pI2, rfl, hI2⟩
          simp only [Act.put, List.setIfInBounds_toArray, List.set_cons_succ, List.set_cons_zero]
          refine wpE_op rfl rfl (fun w' hw' K' hK' => ?_)
          have hE := hw'.1
          have hq := (hw'.2 125 wI2 (by simp [adds]) (by decide)).cell hI2
          go_step
          refine hK' _ ⟨_, rfl⟩ ?_
          clear hK' K' hq hE hw' w'
          refine wpE_call 127 rfl (by simp) rfl (fun w' hw' K' hK' => ?_) ?_
          · have hE := hw'.1
            go_step
            refine (result_no 142 (by decide) _ w').mono ?_
            rintro _ w2 ⟨rfl, hx⟩
            exact hK' _ _ ⟨_, rfl, rfl⟩ hx
          rintro _ w9 _ rfl
          simp only [Act.put, List.setIfInBounds_toArray, List.set_cons_succ, List.set_cons_zero]
          refine wpE_op rfl rfl (fun w' hw' K' hK' => ?_)
          have hE := hw'.1
          go_step
          refine hK' _ ⟨_, rfl⟩ ?_
          clear hK' K'  hE hw' w'
          refine wpE_nil (fun w5 ha => ?_)
          have hx5 : Ext wf w5 := (Ext.drew wf).trans ha.1
          clear ha
          have HX5 := Lib.hid (HXF.out.trans hx5); clear hx5
          go_wp2_with fail
          go_roundw
          case rel => exact ⟨3, by omega, by go_num, HX5.out⟩
          case measure => simp [intOf]
        · rename World => wq
          clear hr
          have HE := Lib.hid (HE.out.trans HXR.out)
          clear HXR HROW
          go_wp2_with fail
          obtain ⟨W3, hW3⟩ : ∃ W3, W3 = wq.alloc (.cells #[.int .i64 10, .int .i64 55, .int .i64 60, .int .i64 0, .int .i64 10, .int .i64 56, .int .i64 60, .int .i64 0, .int .i64 10, .int .i64 20, .int .i64 45, .int .i64 0, .int .i64 10, .int .i64 20, .int .i64 44, .int .i64 0] 23) := ⟨_, rfl⟩
          have hrow : W3.heap[wq.heap.size]? = some (.cells #[.int .i64 10, .int .i64 55, .int .i64 60, .int .i64 0, .int .i64 10, .int .i64 56, .int .i64 60, .int .i64 0, .int .i64 10, .int .i64 20, .int .i64 45, .int .i64 0, .int .i64 10, .int .i64 20, .int .i64 44, .int .i64 0] 23) := by rw [hW3]; exact heap_alloc_new wq _
          have hx0 : Ext wq W3 := hW3 ▸ (Ext.refl wq).alloc _
          rw [← hW3]
          clear hW3
          have HROW := Lib.hid hrow; have HE := Lib.hid (HE.out.trans hx0)
          clear hrow hx0
          go_loopw [136] (fun i wr3 => ∃ k : Nat, k ≤ 4 ∧ i = .int .i64 k ∧ Ext W3 wr3) (fun i _ => 4 - (intOf i).toNat)
          case atStart => exact ⟨0, by omega, rfl, Ext.refl _⟩
          case round =>
            obtain ⟨k, hk, rfl, hx⟩ := hrel
            have hr := hx.heap HROW.out
            have HXR := Lib.hid hx; clear hx
            rcases (show k = 0 ∨ k = 1 ∨ k = 2 ∨ k = 3 ∨ k = 4 by omega) with rfl | rfl | rfl | rfl | rfl
            · skip
              have q0 : wr.cell? ⟨wq.heap.size, 0, none⟩ = some (.int .i64 10) := by rw [cell_of_row _ _ 0 _ _ (0, 0) hr]; rfl
              have q1 : wr.cell? ⟨wq.heap.size, 1, none⟩ = some (.int .i64 55) := by rw [cell_of_row _ _ 1 _ _ (0, 0) hr]; rfl
              have q2 : wr.cell? ⟨wq.heap.size, 2, none⟩ = some (.int .i64 60) := by rw [cell_of_row _ _ 2 _ _ (0, 0) hr]; rfl
              have q3 : wr.cell? ⟨wq.heap.size, 3, none⟩ = some (.int .i64 0) := by rw [cell_of_row _ _ 3 _ _ (0, 0) hr]; rfl
              clear hr
              go_wp2_with fail
              obtain ⟨wf, hwf⟩ : ∃ wf, wf = wr.alloc (.cells #[.int .i64 10, .int .i64 55, .int .i64 60, .int .i64 0] 23) := ⟨_, rfl⟩
              have hTF : TB wf wr.heap.size 10 55 60 0 := by rw [hwf]; exact heap_alloc_new wr _
              have hxf : Ext wr wf := hwf ▸ (Ext.refl wr).alloc _
              rw [← hwf]
              clear hwf q0 q1 q2 q3
              have HTF := Lib.hid hTF; have HXF := Lib.hid (HXR.out.trans hxf)
              clear hTF hxf
              refine wp_region_ext (fun i v' w' => match i with | 1 => v' = .int .i64 0 | 2 => ∃ g, v' = .slice (some ⟨g, 0, none⟩) 4 4 ∧ w'.heap[g]? = some (.cells #[.int .i64 0, .int .i64 140, .int .i64 0, .int .i64 141] 27 (0, 0)) | 4 => ∃ p, v' = .pointer (some p) ∧ w'.cell? p = some (.int .i64 0) | _ => False) (by kernel_rfl) (by kernel_rfl) ?_
              refine wpE_op rfl rfl (fun w' hw' K' hK' => ?_)
              have hE := hw'.1
              obtain ⟨q0, q1, q2, q3⟩ := (HTF.out.ext ((Ext.drew wf).trans hE)).cells
              go_step
              refine hK' _ ⟨_, rfl⟩ ?_
              clear hK' K' q0 q1 q2 q3 hE hw' w'
              have hus := Usable_at 10 55 60 0 50 5
              rw [show usableF 10 55 60 0 50 5 = 0 by decide] at hus
              refine wpE_call 142 rfl (by simp) rfl (fun w' hw' K' hK' => ?_) ?_
              · have hE := hw'.1
                go_step
                refine (hus w').mono ?_
                rintro _ w2 ⟨rfl, hx⟩
                exact hK' _ _ ⟨_, rfl, rfl⟩ hx
              rintro _ w8 _ rfl
              simp only [Act.put, List.setIfInBounds_toArray, List.set_cons_succ, List.set_cons_zero]
              refine wpE_call 143 rfl (by simp) rfl (fun w' hw' K' hK' => ?_) ?_
              · have hE := hw'.1
                go_step
                exact hK' _ _ ⟨_, rfl, _, rfl, heap_alloc_new w' _⟩ ((Ext.refl w').alloc _)
              rintro _ wB1 _ ⟨gB1, rfl, hB1⟩
              simp only [Act.put, List.setIfInBounds_toArray, List.set_cons_succ, List.set_cons_zero]
              refine wpE_op rfl rfl (fun w' hw' K' hK' => ?_)
              have hE := hw'.1
              go_step
              refine hK' _ ⟨_, rfl⟩ ?_
              clear hK' K'  hE hw' w'
              refine wpE_call 145 rfl (by simp) rfl (fun w' hw' K' hK' => ?_) ?_
              · have hM : Ext wB1 w' := hw'.2 143 wB1 (by simp [adds]) (by decide)
                go_step
                exact hK' _ _ ⟨_, rfl, ⟨gB1, 0, none⟩, rfl, by rw [cell_of_row _ _ 0 _ _ (0, 0) (hM.heap hB1)]; rfl⟩ (Ext.refl w')
              rintro _ wI1 _ ⟨pI1, rfl, hI1⟩
              simp only [Act.put, List.setIfInBounds_toArray, List.set_cons_succ, List.set_cons_zero]
              refine wpE_op rfl rfl (fun w' hw' K' hK' => ?_)
              have hE := hw'.1
              have hq := (hw'.2 145 wI1 (by simp [adds]) (by decide)).cell hI1
              go_step
              refine hK' _ ⟨_, rfl⟩ ?_
              clear hK' K' hq hE hw' w'
              refine wpE_op rfl rfl (fun w' hw' K' hK' => ?_)
              have hE := hw'.1
              go_step
              refine hK' _ ⟨_, rfl⟩ ?_
              clear hK' K'  hE hw' w'
              refine wpE_nil (fun w5 ha => ?_)
              have hx5 : Ext wf w5 := (Ext.drew wf).trans ha.1
              clear ha
              have HX5 := Lib.hid (HXF.out.trans hx5); clear hx5
              go_wp2_with fail
              go_roundw
              case rel => exact ⟨1, by omega, by go_num, HX5.out⟩
              case measure => simp [intOf]
            · skip
              have q0 : wr.cell? ⟨wq.heap.size, 4, none⟩ = some (.int .i64 10) := by rw [cell_of_row _ _ 4 _ _ (0, 0) hr]; rfl
              have q1 : wr.cell? ⟨wq.heap.size, 5, none⟩ = some (.int .i64 56) := by rw [cell_of_row _ _ 5 _ _ (0, 0) hr]; rfl
              have q2 : wr.cell? ⟨wq.heap.size, 6, none⟩ = some (.int .i64 60) := by rw [cell_of_row _ _ 6 _ _ (0, 0) hr]; rfl
              have q3 : wr.cell? ⟨wq.heap.size, 7, none⟩ = some (.int .i64 0) := by rw [cell_of_row _ _ 7 _ _ (0, 0) hr]; rfl
              clear hr
              go_wp2_with fail
              obtain ⟨wf, hwf⟩ : ∃ wf, wf = wr.alloc (.cells #[.int .i64 10, .int .i64 56, .int .i64 60, .int .i64 0] 23) := ⟨_, rfl⟩
              have hTF : TB wf wr.heap.size 10 56 60 0 := by rw [hwf]; exact heap_alloc_new wr _
              have hxf : Ext wr wf := hwf ▸ (Ext.refl wr).alloc _
              rw [← hwf]
              clear hwf q0 q1 q2 q3
              have HTF := Lib.hid hTF; have HXF := Lib.hid (HXR.out.trans hxf)
              clear hTF hxf
              refine wp_region_ext (fun i v' w' => match i with | 1 => v' = .int .i64 140 | 2 => ∃ g, v' = .slice (some ⟨g, 0, none⟩) 4 4 ∧ w'.heap[g]? = some (.cells #[.int .i64 0, .int .i64 140, .int .i64 0, .int .i64 141] 27 (0, 0)) | 4 => ∃ p, v' = .pointer (some p) ∧ w'.cell? p = some (.int .i64 140) | _ => False) (by kernel_rfl) (by kernel_rfl) ?_
              refine wpE_op rfl rfl (fun w' hw' K' hK' => ?_)
              have hE := hw'.1
              obtain ⟨q0, q1, q2, q3⟩ := (HTF.out.ext ((Ext.drew wf).trans hE)).cells
              go_step
              refine hK' _ ⟨_, rfl⟩ ?_
              clear hK' K' q0 q1 q2 q3 hE hw' w'
              have hus := Usable_at 10 56 60 0 50 5
              rw [show usableF 10 56 60 0 50 5 = 140 by decide] at hus
              refine wpE_call 142 rfl (by simp) rfl (fun w' hw' K' hK' => ?_) ?_
              · have hE := hw'.1
                go_step
                refine (hus w').mono ?_
                rintro _ w2 ⟨rfl, hx⟩
                exact hK' _ _ ⟨_, rfl, rfl⟩ hx
              rintro _ w8 _ rfl
              simp only [Act.put, List.setIfInBounds_toArray, List.set_cons_succ, List.set_cons_zero]
              refine wpE_call 143 rfl (by simp) rfl (fun w' hw' K' hK' => ?_) ?_
              · have hE := hw'.1
                go_step
                exact hK' _ _ ⟨_, rfl, _, rfl, heap_alloc_new w' _⟩ ((Ext.refl w').alloc _)
              rintro _ wB1 _ ⟨gB1, rfl, hB1⟩
              simp only [Act.put, List.setIfInBounds_toArray, List.set_cons_succ, List.set_cons_zero]
              refine wpE_op rfl rfl (fun w' hw' K' hK' => ?_)
              have hE := hw'.1
              go_step
              refine hK' _ ⟨_, rfl⟩ ?_
              clear hK' K'  hE hw' w'
              refine wpE_call 145 rfl (by simp) rfl (fun w' hw' K' hK' => ?_) ?_
              · have hM : Ext wB1 w' := hw'.2 143 wB1 (by simp [adds]) (by decide)
                go_step
                exact hK' _ _ ⟨_, rfl, ⟨gB1, 1, none⟩, rfl, by rw [cell_of_row _ _ 1 _ _ (0, 0) (hM.heap hB1)]; rfl⟩ (Ext.refl w')
              rintro _ wI1 _ ⟨pI1, rfl, hI1⟩
              simp only [Act.put, List.setIfInBounds_toArray, List.set_cons_succ, List.set_cons_zero]
              refine wpE_op rfl rfl (fun w' hw' K' hK' => ?_)
              have hE := hw'.1
              have hq := (hw'.2 145 wI1 (by simp [adds]) (by decide)).cell hI1
              go_step
              refine hK' _ ⟨_, rfl⟩ ?_
              clear hK' K' hq hE hw' w'
              refine wpE_op rfl rfl (fun w' hw' K' hK' => ?_)
              have hE := hw'.1
              go_step
              refine hK' _ ⟨_, rfl⟩ ?_
              clear hK' K'  hE hw' w'
              refine wpE_nil (fun w5 ha => ?_)
              have hx5 : Ext wf w5 := (Ext.drew wf).trans ha.1
              clear ha
              have HX5 := Lib.hid (HXF.out.trans hx5); clear hx5
              go_wp2_with fail
              go_roundw
              case rel => exact ⟨2, by omega, by go_num, HX5.out⟩
              case measure => simp [intOf]
            · skip
              have q0 : wr.cell? ⟨wq.heap.size, 8, none⟩ = some (.int .i64 10) := by rw [cell_of_row _ _ 8 _ _ (0, 0) hr]; rfl
              have q1 : wr.cell? ⟨wq.heap.size, 9, none⟩ = some (.int .i64 20) := by rw [cell_of_row _ _ 9 _ _ (0, 0) hr]; rfl
              have q2 : wr.cell? ⟨wq.heap.size, 10, none⟩ = some (.int .i64 45) := by rw [cell_of_row _ _ 10 _ _ (0, 0) hr]; rfl
              have q3 : wr.cell? ⟨wq.heap.size, 11, none⟩ = some (.int .i64 0) := by rw [cell_of_row _ _ 11 _ _ (0, 0) hr]; rfl
              clear hr
              go_wp2_with fail
              obtain ⟨wf, hwf⟩ : ∃ wf, wf = wr.alloc (.cells #[.int .i64 10, .int .i64 20, .int .i64 45, .int .i64 0] 23) := ⟨_, rfl⟩
              have hTF : TB wf wr.heap.size 10 20 45 0 := by rw [hwf]; exact heap_alloc_new wr _
              have hxf : Ext wr wf := hwf ▸ (Ext.refl wr).alloc _
              rw [← hwf]
              clear hwf q0 q1 q2 q3
              have HTF := Lib.hid hTF; have HXF := Lib.hid (HXR.out.trans hxf)
              clear hTF hxf
              refine wp_region_ext (fun i v' w' => match i with | 1 => v' = .int .i64 0 | 2 => ∃ g, v' = .slice (some ⟨g, 0, none⟩) 4 4 ∧ w'.heap[g]? = some (.cells #[.int .i64 0, .int .i64 140, .int .i64 0, .int .i64 141] 27 (0, 0)) | 4 => ∃ p, v' = .pointer (some p) ∧ w'.cell? p = some (.int .i64 0) | _ => False) (by kernel_rfl) (by kernel_rfl) ?_
              refine wpE_op rfl rfl (fun w' hw' K' hK' => ?_)
              have hE := hw'.1
              obtain ⟨q0, q1, q2, q3⟩ := (HTF.out.ext ((Ext.drew wf).trans hE)).cells
              go_step
              refine hK' _ ⟨_, rfl⟩ ?_
              clear hK' K' q0 q1 q2 q3 hE hw' w'
              have hus := Usable_at 10 20 45 0 50 5
              rw [show usableF 10 20 45 0 50 5 = 0 by decide] at hus
              refine wpE_call 142 rfl (by simp) rfl (fun w' hw' K' hK' => ?_) ?_
              · have hE := hw'.1
                go_step
                refine (hus w').mono ?_
                rintro _ w2 ⟨rfl, hx⟩
                exact hK' _ _ ⟨_, rfl, rfl⟩ hx
              rintro _ w8 _ rfl
              simp only [Act.put, List.setIfInBounds_toArray, List.set_cons_succ, List.set_cons_zero]
              refine wpE_call 143 rfl (by simp) rfl (fun w' hw' K' hK' => ?_) ?_
              · have hE := hw'.1
                go_step
                exact hK' _ _ ⟨_, rfl, _, rfl, heap_alloc_new w' _⟩ ((Ext.refl w').alloc _)
              rintro _ wB1 _ ⟨gB1, rfl, hB1⟩
              simp only [Act.put, List.setIfInBounds_toArray, List.set_cons_succ, List.set_cons_zero]
              refine wpE_op rfl rfl (fun w' hw' K' hK' => ?_)
              have hE := hw'.1
              go_step
              refine hK' _ ⟨_, rfl⟩ ?_
              clear hK' K'  hE hw' w'
              refine wpE_call 145 rfl (by simp) rfl (fun w' hw' K' hK' => ?_) ?_
              · have hM : Ext wB1 w' := hw'.2 143 wB1 (by simp [adds]) (by decide)
                go_step
                exact hK' _ _ ⟨_, rfl, ⟨gB1, 2, none⟩, rfl, by rw [cell_of_row _ _ 2 _ _ (0, 0) (hM.heap hB1)]; rfl⟩ (Ext.refl w')
              rintro _ wI1 _ ⟨pI1, rfl, hI1⟩
              simp only [Act.put, List.setIfInBounds_toArray, List.set_cons_succ, List.set_cons_zero]
              refine wpE_op rfl rfl (fun w' hw' K' hK' => ?_)
              have hE := hw'.1
              have hq := (hw'.2 145 wI1 (by simp [adds]) (by decide)).cell hI1
              go_step
              refine hK' _ ⟨_, rfl⟩ ?_
              clear hK' K' hq hE hw' w'
              refine wpE_op rfl rfl (fun w' hw' K' hK' => ?_)
              have hE := hw'.1
              go_step
              refine hK' _ ⟨_, rfl⟩ ?_
              clear hK' K'  hE hw' w'
              refine wpE_nil (fun w5 ha => ?_)
              have hx5 : Ext wf w5 := (Ext.drew wf).trans ha.1
              clear ha
              have HX5 := Lib.hid (HXF.out.trans hx5); clear hx5
              go_wp2_with fail
              go_roundw
              case rel => exact ⟨3, by omega, by go_num, HX5.out⟩
              case measure => simp [intOf]
            · skip
              have q0 : wr.cell? ⟨wq.heap.size, 12, none⟩ = some (.int .i64 10) := by rw [cell_of_row _ _ 12 _ _ (0, 0) hr]; rfl
              have q1 : wr.cell? ⟨wq.heap.size, 13, none⟩ = some (.int .i64 20) := by rw [cell_of_row _ _ 13 _ _ (0, 0) hr]; rfl
              have q2 : wr.cell? ⟨wq.heap.size, 14, none⟩ = some (.int .i64 44) := by rw [cell_of_row _ _ 14 _ _ (0, 0) hr]; rfl
              have q3 : wr.cell? ⟨wq.heap.size, 15, none⟩ = some (.int .i64 0) := by rw [cell_of_row _ _ 15 _ _ (0, 0) hr]; rfl
              clear hr
              go_wp2_with fail
              obtain ⟨wf, hwf⟩ : ∃ wf, wf = wr.alloc (.cells #[.int .i64 10, .int .i64 20, .int .i64 44, .int .i64 0] 23) := ⟨_, rfl⟩
              have hTF : TB wf wr.heap.size 10 20 44 0 := by rw [hwf]; exact heap_alloc_new wr _
              have hxf : Ext wr wf := hwf ▸ (Ext.refl wr).alloc _
              rw [← hwf]
              clear hwf q0 q1 q2 q3
              have HTF := Lib.hid hTF; have HXF := Lib.hid (HXR.out.trans hxf)
              clear hTF hxf
              refine wp_region_ext (fun i v' w' => match i with | 1 => v' = .int .i64 141 | 2 => ∃ g, v' = .slice (some ⟨g, 0, none⟩) 4 4 ∧ w'.heap[g]? = some (.cells #[.int .i64 0, .int .i64 140, .int .i64 0, .int .i64 141] 27 (0, 0)) | 4 => ∃ p, v' = .pointer (some p) ∧ w'.cell? p = some (.int .i64 141) | _ => False) (by kernel_rfl) (by kernel_rfl) ?_
              refine wpE_op rfl rfl (fun w' hw' K' hK' => ?_)
              have hE := hw'.1
              obtain ⟨q0, q1, q2, q3⟩ := (HTF.out.ext ((Ext.drew wf).trans hE)).cells
              go_step
              refine hK' _ ⟨_, rfl⟩ ?_
              clear hK' K' q0 q1 q2 q3 hE hw' w'
              have hus := Usable_at 10 20 44 0 50 5
              rw [show usableF 10 20 44 0 50 5 = 141 by decide] at hus
              refine wpE_call 142 rfl (by simp) rfl (fun w' hw' K' hK' => ?_) ?_
              · have hE := hw'.1
                go_step
                refine (hus w').mono ?_
                rintro _ w2 ⟨rfl, hx⟩
                exact hK' _ _ ⟨_, rfl, rfl⟩ hx
              rintro _ w8 _ rfl
              simp only [Act.put, List.setIfInBounds_toArray, List.set_cons_succ, List.set_cons_zero]
              refine wpE_call 143 rfl (by simp) rfl (fun w' hw' K' hK' => ?_) ?_
              · have hE := hw'.1
                go_step
                exact hK' _ _ ⟨_, rfl, _, rfl, heap_alloc_new w' _⟩ ((Ext.refl w').alloc _)
              rintro _ wB1 _ ⟨gB1, rfl, hB1⟩
              simp only [Act.put, List.setIfInBounds_toArray, List.set_cons_succ, List.set_cons_zero]
              refine wpE_op rfl rfl (fun w' hw' K' hK' => ?_)
              have hE := hw'.1
              go_step
              refine hK' _ ⟨_, rfl⟩ ?_
              clear hK' K'  hE hw' w'
              refine wpE_call 145 rfl (by simp) rfl (fun w' hw' K' hK' => ?_) ?_
              · have hM : Ext wB1 w' := hw'.2 143 wB1 (by simp [adds]) (by decide)
                go_step
                exact hK' _ _ ⟨_, rfl, ⟨gB1, 3, none⟩, rfl, by rw [cell_of_row _ _ 3 _ _ (0, 0) (hM.heap hB1)]; rfl⟩ (Ext.refl w')
              rintro _ wI1 _ ⟨pI1, rfl, hI1⟩
              simp only [Act.put, List.setIfInBounds_toArray, List.set_cons_succ, List.set_cons_zero]
              refine wpE_op rfl rfl (fun w' hw' K' hK' => ?_)
              have hE := hw'.1
              have hq := (hw'.2 145 wI1 (by simp [adds]) (by decide)).cell hI1
              go_step
              refine hK' _ ⟨_, rfl⟩ ?_
              clear hK' K' hq hE hw' w'
              refine wpE_op rfl rfl (fun w' hw' K' hK' => ?_)
              have hE := hw'.1
              go_step
              refine hK' _ ⟨_, rfl⟩ ?_
              clear hK' K'  hE hw' w'
              refine wpE_nil (fun w5 ha => ?_)
              have hx5 : Ext wf w5 := (Ext.drew wf).trans ha.1
              clear ha
              have HX5 := Lib.hid (HXF.out.trans hx5); clear hx5
              go_wp2_with fail
              go_roundw
              case rel => exact ⟨4, by omega, by go_num, HX5.out⟩
              case measure => simp [intOf]
            · clear hr
              have HE := Lib.hid (HE.out.trans HXR.out)
              go_wp2_with fail
              go_ret
              exact ⟨rfl, HE.out⟩
end Go.Proofs.YtfgmmjpejlpdoaaGreatDoor
