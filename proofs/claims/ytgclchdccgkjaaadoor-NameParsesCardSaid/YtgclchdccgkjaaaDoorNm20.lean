/- Names: the program's Compare. -/
import Derived.Test.YtgclchdccgkjaaaDoorNmC
import Derived.Test.YtgclchdccgkjaaaDoorNm14
namespace Go.Proofs.YtgclchdccgkjaaaDoor
open Go Go.RowKit
set_option linter.unusedVariables false

set_option maxRecDepth 100000 in
set_option maxHeartbeats 1000000 in
theorem NCompare_at (A : Option Addr) (c : Nat) (ps : List ByteArray) (r : ByteArray) (B : Option Addr) (d : Nat) (qs : List ByteArray) (t : ByteArray) (hn : ps.length ≤ 1000) (hm : qs.length ≤ 1000) (w : World) (hR : RS w (.slice A ps.length c) (sv ps)) (hQ : RS w (.slice B qs.length d) (sv qs)) :
    Calls Tryd.prog 30 #[.agg #[.slice A ps.length c, .string r], .agg #[.slice B qs.length d, .string t]] w fun e w' => e = .returned (.int .i64 (cmpN (dat ps) r.data.toList (dat qs) t.data.toList)) ∧ Ext w w' := by
  have hT := heap_alloc_new w (.cells #[.slice A ps.length c, .string r] 24)
  have hU := heap_alloc_new (w.alloc (.cells #[.slice A ps.length c, .string r] 24)) (.cells #[.slice B qs.length d, .string t] 24)
  rw [World.size_alloc] at hU
  have x1 := (Ext.refl w).alloc (.cells #[.slice A ps.length c, .string r] 24)
  have x2 := (Ext.refl (w.alloc (.cells #[.slice A ps.length c, .string r] 24))).alloc (.cells #[.slice B qs.length d, .string t] 24)
  have hT2 := x2.heap hT
  have hx := x1.trans x2
  obtain ⟨wb, hwb⟩ : ∃ wb, wb = (w.alloc (.cells #[.slice A ps.length c, .string r] 24)).alloc (.cells #[.slice B qs.length d, .string t] 24) := ⟨_, rfl⟩
  rw [← hwb] at hT2 hU hx
  have HT : Hid (PB wb w.heap.size (.slice A ps.length c) r) := Lib.hid hT2
  have HU : Hid (PB wb (w.heap.size + 1) (.slice B qs.length d) t) := Lib.hid hU
  have HXB := Lib.hid hx
  have HR := Lib.hid (hR.ext hx); have HQ := Lib.hid (hQ.ext hx)
  clear hT hT2 hU hx x1 x2 hR hQ
  obtain ⟨X, hX⟩ : ∃ X, ordB r.data.toList t.data.toList = X := ⟨_, rfl⟩
  obtain ⟨Y, hY⟩ : ∃ Y, cmpL (dat ps) (dat qs) = Y := ⟨_, rfl⟩
  have HO := Lib.hid (show fnz [X, Y] = cmpN (dat ps) r.data.toList (dat qs) t.data.toList by
    unfold cmpN; rw [hX, hY, fnz, fnz, fnz]; by_cases h : X = 0 <;> by_cases h2 : Y = 0 <;> simp [h, h2])
  obtain ⟨Z, hZ⟩ : ∃ Z, cmpN (dat ps) r.data.toList (dat qs) t.data.toList = Z := ⟨_, rfl⟩
  rw [hZ] at HO ⊢
  clear hZ
  have HXY := Lib.hid hX; have HYY := Lib.hid hY; clear hX hY
  go_enter Tryd.func30, Tryd.ntmps30
  go_wp2_with fail
  rw [← hwb]
  clear hwb
  refine wp_region_ext (fun i v' w' => match i with | 4 => v' = .int .i64 X | 9 => v' = .int .i64 Y | 10 => RS w' v' (iv [X, Y]) | 11 => v' = .int .i64 Z | _ => False) (by kernel_rfl) (by kernel_rfl) ?_
  refine wpE_op rfl rfl (fun w' hw' K' hK' => ?_)
  have hE := hw'.1
  go_step
  refine hK' _ ⟨_, rfl⟩ ?_
  clear hK' K' hE hw' w'
  refine wpE_op rfl rfl (fun w' hw' K' hK' => ?_)
  have hE := hw'.1
  obtain ⟨u0, u1⟩ := (HT.out.ext ((Ext.drew wb).trans hE)).cells
  go_step
  refine hK' _ ⟨_, rfl⟩ ?_
  clear hK' K' u0 u1 hE hw' w'
  refine wpE_op rfl rfl (fun w' hw' K' hK' => ?_)
  have hE := hw'.1
  go_step
  refine hK' _ ⟨_, rfl⟩ ?_
  clear hK' K' hE hw' w'
  refine wpE_op rfl rfl (fun w' hw' K' hK' => ?_)
  have hE := hw'.1
  obtain ⟨u0, u1⟩ := (HU.out.ext ((Ext.drew wb).trans hE)).cells
  go_step
  refine hK' _ ⟨_, rfl⟩ ?_
  clear hK' K' u0 u1 hE hw' w'
  refine wpE_call 9 rfl (by simp) rfl (fun w' hw' K' hK' => ?_) ?_
  · have hE := hw'.1
    go_step
    refine (cmpS_at r t w').mono ?_
    rintro en w2 ⟨rfl, rfl⟩
    exact hK' _ _ ⟨_, rfl, by rw [HXY.out]; exact Eq.refl (Value.int .i64 X)⟩ (Ext.refl _)
  rintro _ w7 _ rfl
  simp only [Act.put, List.setIfInBounds_toArray, List.set_cons_succ, List.set_cons_zero]
  refine wpE_op rfl rfl (fun w' hw' K' hK' => ?_)
  have hE := hw'.1
  go_step
  refine hK' _ ⟨_, rfl⟩ ?_
  clear hK' K' hE hw' w'
  refine wpE_op rfl rfl (fun w' hw' K' hK' => ?_)
  have hE := hw'.1
  obtain ⟨u0, u1⟩ := (HT.out.ext ((Ext.drew wb).trans hE)).cells
  go_step
  refine hK' _ ⟨_, rfl⟩ ?_
  clear hK' K' u0 u1 hE hw' w'
  refine wpE_op rfl rfl (fun w' hw' K' hK' => ?_)
  have hE := hw'.1
  go_step
  refine hK' _ ⟨_, rfl⟩ ?_
  clear hK' K' hE hw' w'
  refine wpE_op rfl rfl (fun w' hw' K' hK' => ?_)
  have hE := hw'.1
  obtain ⟨u0, u1⟩ := (HU.out.ext ((Ext.drew wb).trans hE)).cells
  go_step
  refine hK' _ ⟨_, rfl⟩ ?_
  clear hK' K' u0 u1 hE hw' w'
  refine wpE_call 14 rfl (by simp) rfl (fun w' hw' K' hK' => ?_) ?_
  · have hE := hw'.1
    go_step
    refine (sCompare_at A c ps B d qs hn hm w' (HR.out.ext ((Ext.drew wb).trans hE)) (HQ.out.ext ((Ext.drew wb).trans hE))).mono ?_
    rintro en w2 ⟨rfl, rfl⟩
    exact hK' _ _ ⟨_, rfl, by rw [HYY.out]; exact Eq.refl (Value.int .i64 Y)⟩ (Ext.refl _)
  rintro _ w7 _ rfl
  simp only [Act.put, List.setIfInBounds_toArray, List.set_cons_succ, List.set_cons_zero]
  refine wpE_call 15 rfl (by simp) rfl (fun w' hw' K' hK' => ?_) ?_
  · have hE := hw'.1
    go_step
    exact hK' _ _ ⟨_, rfl, RS.new w' 3 (iv [X, Y]) (by simp [iv, maxLen])⟩ ((Ext.refl w').alloc _)
  rintro v8 w8 _ ⟨A8, c8, rfl, hl8, hm8, hc8⟩
  have hR8 : RS w8 (.slice A8 (iv [X, Y]).length c8) (iv [X, Y]) := ⟨A8, c8, rfl, hl8, hm8, hc8⟩
  clear hl8 hm8 hc8
  simp only [Act.put, List.setIfInBounds_toArray, List.set_cons_succ, List.set_cons_zero]
  refine wpE_call 16 rfl (by simp) rfl (fun w' hw' K' hK' => ?_) ?_
  · have hE := hw'.1
    have hM : Ext w8 w' := hw'.2 15 w8 (by simp [adds]) (by decide)
    go_step
    refine (or_at A8 c8 [X, Y] (by simp) w' (hR8.ext hM)).mono ?_
    rintro en w2 ⟨rfl, rfl⟩
    exact hK' _ _ ⟨_, rfl, by rw [HO.out]; exact Eq.refl (Value.int .i64 Z)⟩ (Ext.refl _)
  rintro _ w9 _ rfl
  simp only [Act.put, List.setIfInBounds_toArray, List.set_cons_succ, List.set_cons_zero]
  refine wpE_op rfl rfl (fun w' hw' K' hK' => ?_)
  have hE := hw'.1
  go_step
  refine hK' _ ⟨_, rfl⟩ ?_
  clear hK' K' hE hw' w'
  refine wpE_nil (fun w' hw' => ?_)
  have hE := hw'.1
  go_wp2_with fail
  go_ret
  exact ⟨rfl, HXB.out.trans ((Ext.drew wb).trans hE)⟩
end Go.Proofs.YtgclchdccgkjaaaDoor
