/- Lifetimes: the reference's Encode. (wip/tools/genltrenc.py printed this.) -/
import Derived.Test.YtfgmmjpejlpdoaaDoorLt3
import Derived.Test.YtfgmmjpejlpdoaaDoorExt2
import Derived.Test.YtfgmmjpejlpdoaaDoorRef3
import Derived.Test.YtfgmmjpejlpdoaaDoorLtE1
import Derived.Test.YtfgmmjpejlpdoaaDoorOv
import Derived.Deep.Cut
namespace Go.Proofs.YtfgmmjpejlpdoaaDoor
open Go Go.RowKit
set_option linter.unusedVariables false

theorem bsinfo : (Tryd.prog.info? 47).map (fun i => (i.zero, i.size, i.bytes)) = some (some (.slice none 0 0), 1, 24) := by kernel_rfl
theorem ownsRow_extE {w w' : World} {B : Nat} {e : TypeId} {v : Value} {n : Nat} {xs : List Value} (h : w.ownsRow B e 1 v n xs) (he : Ext w w') : w'.ownsRow B e 1 v n xs :=
  h.kept (he.but none) (by cases hv : v.ownBlock <;> simp)
theorem encTime_le (t : Int) : (encTime t).length ≤ 11 := by
  unfold encTime
  split
  · have := elem_le 24 (beBytes t 6)
    rw [beBytes_length] at this
    exact this
  · simp
theorem encWrap_le (tag n : Int) (l : List UInt8) : (encWrap tag n l).length ≤ l.length + 5 := by
  unfold encWrap
  split
  · exact elem_le _ _
  · simp
theorem wrapTime_le (n t : Int) : (encWrap 160 n (encTime t)).length ≤ 16 := Nat.le_trans (encWrap_le _ _ _) (by have := encTime_le t; omega)
theorem encSeq_nil_end (a b c : List UInt8) : encSeq [a, b, c, []] = encSeq [a, b, c] := by unfold encSeq; simp

set_option maxRecDepth 100000 in
set_option maxHeartbeats 4000000 in
theorem REncode_zero (a s e r : Int) (hr : r = 0) (w : World) :
    Calls Tryd.prog 37 #[.agg #[.int .i64 a, .int .i64 s, .int .i64 e, .int .i64 r]] w fun en w' => ∃ A c, en = .returned (.slice A (encTimes a s e r).length c) ∧ OB 5 w' w.heap.size (.slice A (encTimes a s e r).length c) (encTimes a s e r) ∧ Ext w w' := by
  obtain ⟨L, hL⟩ : ∃ L, encTimes a s e r = L := ⟨_, rfl⟩
  have HEN := Lib.hid (show L = encSeq [encWrap 160 0 (encTime a), encWrap 160 1 (encTime s), encWrap 160 2 (encTime e)] by rw [← hL]; unfold encTimes; rw [if_pos hr, encSeq_nil_end])
  rw [hL]
  clear hL
  have HTr := Lib.hid (show TB (w.alloc (.cells #[.int .i64 a, .int .i64 s, .int .i64 e, .int .i64 r] 27)) w.heap.size a s e r from heap_alloc_new w _)
  have HXr := Lib.hid ((Ext.refl w).alloc (.cells #[.int .i64 a, .int .i64 s, .int .i64 e, .int .i64 r] 27))
  have la := wrapTime_le 0 a; have ls := wrapTime_le 1 s; have le := wrapTime_le 2 e; have lr := wrapTime_le 3 r
  have HLA := Lib.hid la; have HLS := Lib.hid ls; have HLE := Lib.hid le; have HLR := Lib.hid lr; clear la ls le lr
  have hz : (r != 0) = false := by rw [bne_eq_false_iff_eq]; exact hr
  clear hr
  go_enter Tryd.func37, Tryd.ntmps37
  go_wp2_with fail
  obtain ⟨wr, hwr⟩ : ∃ wr, wr = w.alloc (.cells #[.int .i64 a, .int .i64 s, .int .i64 e, .int .i64 r] 27) := ⟨_, rfl⟩
  rw [← hwr] at HTr HXr ⊢
  clear hwr
  refine wp_region_ext_tail 12 (fun i v' w' => match i with | 2 => VBt (encTime a) v' w' | 3 => VBt (encWrap 160 0 (encTime a)) v' w' | 6 => VBt (encTime s) v' w' | 7 => VBt (encWrap 160 1 (encTime s)) v' w' | 10 => VBt (encTime e) v' w' | 11 => VBt (encWrap 160 2 (encTime e)) v' w' | _ => False) (by kernel_rfl) (by kernel_rfl) ?_
  refine wpE_op rfl rfl (fun w' hw' K' hK' => ?_)
  have hE := hw'.1
  go_step
  refine hK' _ ⟨_, rfl⟩ ?_
  clear hK' K'  hE hw' w'
  refine wpE_op rfl rfl (fun w' hw' K' hK' => ?_)
  have hE := hw'.1
  have u0 := (HTr.out.ext ((Ext.drew _).trans hE)).cells.1
  go_step
  refine hK' _ ⟨_, rfl⟩ ?_
  clear hK' K' u0 hE hw' w'
  refine wpE_call 6 rfl (by simp) rfl (fun w' hw' K' hK' => ?_) ?_
  · have hE := hw'.1
    go_step
    refine (RTime_at a _).mono ?_
    rintro e w2 ⟨A2, c2, rfl, hb, hx⟩
    exact hK' _ _ ⟨_, rfl, A2, c2, rfl, hb.bs⟩ hx
  rintro _ w1x hE1 ⟨A1, c1, rfl, hb1⟩
  simp only [Act.put, List.setIfInBounds_toArray, List.set_cons_succ, List.set_cons_zero]
  refine wpE_call 7 rfl (by simp) rfl (fun w' hw' K' hK' => ?_) ?_
  · have hE := hw'.1
    have hM6 : Ext w1x w' := hw'.2 6 w1x (by simp [adds]) (by decide)
    go_step
    refine (RTagged_at 0 A1 c1 _ _ (hb1.ext hM6)).mono ?_
    rintro e w2 ⟨A2, c2, rfl, hb, hx⟩
    exact hK' _ _ ⟨_, rfl, A2, c2, rfl, hb.bs⟩ hx
  rintro _ w2x hE2 ⟨A2, c2, rfl, hb2⟩
  simp only [Act.put, List.setIfInBounds_toArray, List.set_cons_succ, List.set_cons_zero]
  refine wpE_op rfl rfl (fun w' hw' K' hK' => ?_)
  have hE := hw'.1
  go_step
  refine hK' _ ⟨_, rfl⟩ ?_
  clear hK' K'  hE hw' w'
  refine wpE_op rfl rfl (fun w' hw' K' hK' => ?_)
  have hE := hw'.1
  have u0 := (HTr.out.ext ((Ext.drew _).trans hE)).cells.2.1
  go_step
  refine hK' _ ⟨_, rfl⟩ ?_
  clear hK' K' u0 hE hw' w'
  refine wpE_call 10 rfl (by simp) rfl (fun w' hw' K' hK' => ?_) ?_
  · have hE := hw'.1
    go_step
    refine (RTime_at s _).mono ?_
    rintro e w2 ⟨A2, c2, rfl, hb, hx⟩
    exact hK' _ _ ⟨_, rfl, A2, c2, rfl, hb.bs⟩ hx
  rintro _ w3x hE3 ⟨A3, c3, rfl, hb3⟩
  simp only [Act.put, List.setIfInBounds_toArray, List.set_cons_succ, List.set_cons_zero]
  refine wpE_call 11 rfl (by simp) rfl (fun w' hw' K' hK' => ?_) ?_
  · have hE := hw'.1
    have hM10 : Ext w3x w' := hw'.2 10 w3x (by simp [adds]) (by decide)
    go_step
    refine (RTagged_at 1 A3 c3 _ _ (hb3.ext hM10)).mono ?_
    rintro e w2 ⟨A2, c2, rfl, hb, hx⟩
    exact hK' _ _ ⟨_, rfl, A2, c2, rfl, hb.bs⟩ hx
  rintro _ w4x hE4 ⟨A4, c4, rfl, hb4⟩
  simp only [Act.put, List.setIfInBounds_toArray, List.set_cons_succ, List.set_cons_zero]
  refine wpE_op rfl rfl (fun w' hw' K' hK' => ?_)
  have hE := hw'.1
  go_step
  refine hK' _ ⟨_, rfl⟩ ?_
  clear hK' K'  hE hw' w'
  refine wpE_op rfl rfl (fun w' hw' K' hK' => ?_)
  have hE := hw'.1
  have u0 := (HTr.out.ext ((Ext.drew _).trans hE)).cells.2.2.1
  go_step
  refine hK' _ ⟨_, rfl⟩ ?_
  clear hK' K' u0 hE hw' w'
  refine wpE_call 14 rfl (by simp) rfl (fun w' hw' K' hK' => ?_) ?_
  · have hE := hw'.1
    go_step
    refine (RTime_at e _).mono ?_
    rintro e w2 ⟨A2, c2, rfl, hb, hx⟩
    exact hK' _ _ ⟨_, rfl, A2, c2, rfl, hb.bs⟩ hx
  rintro _ w5x hE5 ⟨A5, c5, rfl, hb5⟩
  simp only [Act.put, List.setIfInBounds_toArray, List.set_cons_succ, List.set_cons_zero]
  refine wpE_call 15 rfl (by simp) rfl (fun w' hw' K' hK' => ?_) ?_
  · have hE := hw'.1
    have hM14 : Ext w5x w' := hw'.2 14 w5x (by simp [adds]) (by decide)
    go_step
    refine (RTagged_at 2 A5 c5 _ _ (hb5.ext hM14)).mono ?_
    rintro e w2 ⟨A2, c2, rfl, hb, hx⟩
    exact hK' _ _ ⟨_, rfl, A2, c2, rfl, hb.bs⟩ hx
  rintro _ w6x hE6 ⟨A6, c6, rfl, hb6⟩
  simp only [Act.put, List.setIfInBounds_toArray, List.set_cons_succ, List.set_cons_zero]
  refine wpE_nil (fun w7 hw7 => ?_)
  have hx7 : Ext wr w7 := (Ext.drew wr).trans hw7.1
  have h18 := hb2.ext (hw7.2 7 w2x (by simp [adds])); have h22 := hb4.ext (hw7.2 11 w4x (by simp [adds])); have h26 := hb6.ext (hw7.2 15 w6x (by simp [adds]))
  have HX7 := Lib.hid (HXr.out.trans hx7)
  have hB4 := BSS.new3 w7 47 (.slice A2 (encWrap 160 0 (encTime a)).length c2) (.slice A4 (encWrap 160 1 (encTime s)).length c4) (.slice A6 (encWrap 160 2 (encTime e)).length c6) _ _ _ h18 h22 h26
  have hT7 := (HTr.out.ext hx7).ext ((Ext.refl w7).alloc (.cells #[.slice A2 (encWrap 160 0 (encTime a)).length c2, .slice A4 (encWrap 160 1 (encTime s)).length c4, .slice A6 (encWrap 160 2 (encTime e)).length c6] 47))
  have q3 := hT7.cells.2.2.2
  have hS := RSequence_at _ _ _ hB4 (by have := HLA.out; have := HLS.out; have := HLE.out; simp; omega)
  rw [← HEN.out] at hS
  have HS := Lib.hid hS
  have HX8 := Lib.hid (HX7.out.alloc (.cells #[.slice A2 (encWrap 160 0 (encTime a)).length c2, .slice A4 (encWrap 160 1 (encTime s)).length c4, .slice A6 (encWrap 160 2 (encTime e)).length c6] 47))
  clear hw7 h18 h22 h26 hB4 hS hx7 hT7
  simp only [List.drop_succ_cons, List.drop_zero]
  go_wp2_with fail
  refine HS.out.mono ?_
  rintro e w8 ⟨A8, c8, rfl, hb8, hx8⟩
  go_wp2
  go_ret
  exact ⟨A8, c8, rfl, hb8.up HX8.out, HX8.out.trans hx8⟩

set_option maxRecDepth 100000 in
set_option maxHeartbeats 4000000 in
theorem REncode_full (a s e r : Int) (hr : r ≠ 0) (w : World) :
    Calls Tryd.prog 37 #[.agg #[.int .i64 a, .int .i64 s, .int .i64 e, .int .i64 r]] w fun en w' => ∃ A c, en = .returned (.slice A (encTimes a s e r).length c) ∧ OB 5 w' w.heap.size (.slice A (encTimes a s e r).length c) (encTimes a s e r) ∧ Ext w w' := by
  obtain ⟨L, hL⟩ : ∃ L, encTimes a s e r = L := ⟨_, rfl⟩
  have HEN := Lib.hid (show L = encSeq [encWrap 160 0 (encTime a), encWrap 160 1 (encTime s), encWrap 160 2 (encTime e), encWrap 160 3 (encTime r)] by rw [← hL]; unfold encTimes; rw [if_neg hr])
  rw [hL]
  clear hL
  have HTr := Lib.hid (show TB (w.alloc (.cells #[.int .i64 a, .int .i64 s, .int .i64 e, .int .i64 r] 27)) w.heap.size a s e r from heap_alloc_new w _)
  have HXr := Lib.hid ((Ext.refl w).alloc (.cells #[.int .i64 a, .int .i64 s, .int .i64 e, .int .i64 r] 27))
  have la := wrapTime_le 0 a; have ls := wrapTime_le 1 s; have le := wrapTime_le 2 e; have lr := wrapTime_le 3 r
  have HLA := Lib.hid la; have HLS := Lib.hid ls; have HLE := Lib.hid le; have HLR := Lib.hid lr; clear la ls le lr
  have hz : (r != 0) = true := by rw [bne_iff_ne]; exact hr
  clear hr
  go_enter Tryd.func37, Tryd.ntmps37
  go_wp2_with fail
  obtain ⟨wr, hwr⟩ : ∃ wr, wr = w.alloc (.cells #[.int .i64 a, .int .i64 s, .int .i64 e, .int .i64 r] 27) := ⟨_, rfl⟩
  rw [← hwr] at HTr HXr ⊢
  clear hwr
  refine wp_region_ext_tail 12 (fun i v' w' => match i with | 2 => VBt (encTime a) v' w' | 3 => VBt (encWrap 160 0 (encTime a)) v' w' | 6 => VBt (encTime s) v' w' | 7 => VBt (encWrap 160 1 (encTime s)) v' w' | 10 => VBt (encTime e) v' w' | 11 => VBt (encWrap 160 2 (encTime e)) v' w' | _ => False) (by kernel_rfl) (by kernel_rfl) ?_
  refine wpE_op rfl rfl (fun w' hw' K' hK' => ?_)
  have hE := hw'.1
  go_step
  refine hK' _ ⟨_, rfl⟩ ?_
  clear hK' K'  hE hw' w'
  refine wpE_op rfl rfl (fun w' hw' K' hK' => ?_)
  have hE := hw'.1
  have u0 := (HTr.out.ext ((Ext.drew _).trans hE)).cells.1
  go_step
  refine hK' _ ⟨_, rfl⟩ ?_
  clear hK' K' u0 hE hw' w'
  refine wpE_call 6 rfl (by simp) rfl (fun w' hw' K' hK' => ?_) ?_
  · have hE := hw'.1
    go_step
    refine (RTime_at a _).mono ?_
    rintro e w2 ⟨A2, c2, rfl, hb, hx⟩
    exact hK' _ _ ⟨_, rfl, A2, c2, rfl, hb.bs⟩ hx
  rintro _ w1x hE1 ⟨A1, c1, rfl, hb1⟩
  simp only [Act.put, List.setIfInBounds_toArray, List.set_cons_succ, List.set_cons_zero]
  refine wpE_call 7 rfl (by simp) rfl (fun w' hw' K' hK' => ?_) ?_
  · have hE := hw'.1
    have hM6 : Ext w1x w' := hw'.2 6 w1x (by simp [adds]) (by decide)
    go_step
    refine (RTagged_at 0 A1 c1 _ _ (hb1.ext hM6)).mono ?_
    rintro e w2 ⟨A2, c2, rfl, hb, hx⟩
    exact hK' _ _ ⟨_, rfl, A2, c2, rfl, hb.bs⟩ hx
  rintro _ w2x hE2 ⟨A2, c2, rfl, hb2⟩
  simp only [Act.put, List.setIfInBounds_toArray, List.set_cons_succ, List.set_cons_zero]
  refine wpE_op rfl rfl (fun w' hw' K' hK' => ?_)
  have hE := hw'.1
  go_step
  refine hK' _ ⟨_, rfl⟩ ?_
  clear hK' K'  hE hw' w'
  refine wpE_op rfl rfl (fun w' hw' K' hK' => ?_)
  have hE := hw'.1
  have u0 := (HTr.out.ext ((Ext.drew _).trans hE)).cells.2.1
  go_step
  refine hK' _ ⟨_, rfl⟩ ?_
  clear hK' K' u0 hE hw' w'
  refine wpE_call 10 rfl (by simp) rfl (fun w' hw' K' hK' => ?_) ?_
  · have hE := hw'.1
    go_step
    refine (RTime_at s _).mono ?_
    rintro e w2 ⟨A2, c2, rfl, hb, hx⟩
    exact hK' _ _ ⟨_, rfl, A2, c2, rfl, hb.bs⟩ hx
  rintro _ w3x hE3 ⟨A3, c3, rfl, hb3⟩
  simp only [Act.put, List.setIfInBounds_toArray, List.set_cons_succ, List.set_cons_zero]
  refine wpE_call 11 rfl (by simp) rfl (fun w' hw' K' hK' => ?_) ?_
  · have hE := hw'.1
    have hM10 : Ext w3x w' := hw'.2 10 w3x (by simp [adds]) (by decide)
    go_step
    refine (RTagged_at 1 A3 c3 _ _ (hb3.ext hM10)).mono ?_
    rintro e w2 ⟨A2, c2, rfl, hb, hx⟩
    exact hK' _ _ ⟨_, rfl, A2, c2, rfl, hb.bs⟩ hx
  rintro _ w4x hE4 ⟨A4, c4, rfl, hb4⟩
  simp only [Act.put, List.setIfInBounds_toArray, List.set_cons_succ, List.set_cons_zero]
  refine wpE_op rfl rfl (fun w' hw' K' hK' => ?_)
  have hE := hw'.1
  go_step
  refine hK' _ ⟨_, rfl⟩ ?_
  clear hK' K'  hE hw' w'
  refine wpE_op rfl rfl (fun w' hw' K' hK' => ?_)
  have hE := hw'.1
  have u0 := (HTr.out.ext ((Ext.drew _).trans hE)).cells.2.2.1
  go_step
  refine hK' _ ⟨_, rfl⟩ ?_
  clear hK' K' u0 hE hw' w'
  refine wpE_call 14 rfl (by simp) rfl (fun w' hw' K' hK' => ?_) ?_
  · have hE := hw'.1
    go_step
    refine (RTime_at e _).mono ?_
    rintro e w2 ⟨A2, c2, rfl, hb, hx⟩
    exact hK' _ _ ⟨_, rfl, A2, c2, rfl, hb.bs⟩ hx
  rintro _ w5x hE5 ⟨A5, c5, rfl, hb5⟩
  simp only [Act.put, List.setIfInBounds_toArray, List.set_cons_succ, List.set_cons_zero]
  refine wpE_call 15 rfl (by simp) rfl (fun w' hw' K' hK' => ?_) ?_
  · have hE := hw'.1
    have hM14 : Ext w5x w' := hw'.2 14 w5x (by simp [adds]) (by decide)
    go_step
    refine (RTagged_at 2 A5 c5 _ _ (hb5.ext hM14)).mono ?_
    rintro e w2 ⟨A2, c2, rfl, hb, hx⟩
    exact hK' _ _ ⟨_, rfl, A2, c2, rfl, hb.bs⟩ hx
  rintro _ w6x hE6 ⟨A6, c6, rfl, hb6⟩
  simp only [Act.put, List.setIfInBounds_toArray, List.set_cons_succ, List.set_cons_zero]
  refine wpE_nil (fun w7 hw7 => ?_)
  have hx7 : Ext wr w7 := (Ext.drew wr).trans hw7.1
  have h18 := hb2.ext (hw7.2 7 w2x (by simp [adds])); have h22 := hb4.ext (hw7.2 11 w4x (by simp [adds])); have h26 := hb6.ext (hw7.2 15 w6x (by simp [adds]))
  have HX7 := Lib.hid (HXr.out.trans hx7)
  have hT7 := (HTr.out.ext hx7).ext ((Ext.refl w7).alloc (.cells #[.slice A2 (encWrap 160 0 (encTime a)).length c2, .slice A4 (encWrap 160 1 (encTime s)).length c4, .slice A6 (encWrap 160 2 (encTime e)).length c6] 47))
  have q3 := hT7.cells.2.2.2
  have hO : (w7.alloc (.cells #[.slice A2 (encWrap 160 0 (encTime a)).length c2, .slice A4 (encWrap 160 1 (encTime s)).length c4, .slice A6 (encWrap 160 2 (encTime e)).length c6] 47)).ownsRow w7.heap.size 47 1 (.slice (some ⟨w7.heap.size, 0, none⟩) 3 3) ([.slice A2 (encWrap 160 0 (encTime a)).length c2, .slice A4 (encWrap 160 1 (encTime s)).length c4, .slice A6 (encWrap 160 2 (encTime e)).length c6] : List Value).length [.slice A2 (encWrap 160 0 (encTime a)).length c2, .slice A4 (encWrap 160 1 (encTime s)).length c4, .slice A6 (encWrap 160 2 (encTime e)).length c6] :=
    ⟨rfl, .inr ⟨w7.heap.size, 3, _, rfl, Nat.le_refl _, heap_alloc_new w7 _, Nat.le_refl _, by simp [maxLen], rfl, rfl⟩⟩
  have HO := Lib.hid hO; have HT7 := Lib.hid hT7
  have H18 := Lib.hid h18; have H22 := Lib.hid h22; have H26 := Lib.hid h26
  have HX8 := Lib.hid (HX7.out.alloc (.cells #[.slice A2 (encWrap 160 0 (encTime a)).length c2, .slice A4 (encWrap 160 1 (encTime s)).length c4, .slice A6 (encWrap 160 2 (encTime e)).length c6] 47))
  clear hw7 h18 h22 h26 hx7 hT7 hO
  obtain ⟨i0, hi, hz0, hz1, hz2⟩ := info_parts bsinfo
  simp only [List.drop_succ_cons, List.drop_zero]
  go_wp2_with fail
  refine (RTime_at r _).mono ?_
  rintro _ w8 ⟨A8, c8, rfl, hb8, hx8⟩
  have HB8 := Lib.hid hb8.bs; have HXa := Lib.hid hx8; clear hb8 hx8
  go_wp2_with fail
  refine (RTagged_at 3 A8 c8 _ _ HB8.out).mono ?_
  rintro _ w9 ⟨A9, c9, rfl, hb9, hx9⟩
  have HB9 := Lib.hid hb9; have HXb := Lib.hid (HXa.out.trans hx9); clear hb9 hx9
  go_wp2_with (at_builtin; refine wpList_append_rs _ rfl (.tmp 20) (.tmp 25) 107 rfl w7.heap.size 47 i0 (.slice none 0 0) 24 Tryd.underlying107 hi hz0 hz1 hz2 rfl _ [.slice A2 (encWrap 160 0 (encTime a)).length c2, .slice A4 (encWrap 160 1 (encTime s)).length c4, .slice A6 (encWrap 160 2 (encTime e)).length c6] rfl (ownsRow_extE HO.out (HXb.out.trans ((Ext.refl w9).alloc _))) _ [.slice A9 (encWrap 160 3 (encTime r)).length c9] rfl (RS.one _ _ _) (by simp [Value.oneCell']) (by simp) (by omega) ?hm ?_; rotate_right; intro v4 w4 hown4 hg4 _)
  case hm =>
    have h1 := HXb.out.size
    rw [World.size_alloc] at h1
    rw [World.size_alloc]
    omega
  have hle9 : (w7.alloc (.cells #[.slice A2 (encWrap 160 0 (encTime a)).length c2, .slice A4 (encWrap 160 1 (encTime s)).length c4, .slice A6 (encWrap 160 2 (encTime e)).length c6] 47)).heap.size ≤ w9.heap.size := HXb.out.size
  have hB4 : BSS w4 v4 [encWrap 160 0 (encTime a), encWrap 160 1 (encTime s), encWrap 160 2 (encTime e), encWrap 160 3 (encTime r)] := by
    have e7 : Ext w7 (w9.alloc (.cells #[.slice A9 (encWrap 160 3 (encTime r)).length c9] 47)) := (((Ext.refl w7).alloc _).trans HXb.out).alloc _
    have ap : ∀ {v : Value} {l : List UInt8}, BS w7 v l → BS w4 v l := fun {v l} h => (h.ext e7).apart (fun hne b hb hk => by
      have hlt := h.blockLt hne b hb
      have e : w7.heap.size = b := Option.some.inj hk
      omega) hg4
    have ap9 : BS w4 (.slice A9 (encWrap 160 3 (encTime r)).length c9) (encWrap 160 3 (encTime r)) := (HB9.out.bs.ext ((Ext.refl w9).alloc _)).apart (fun hne b hb hk => by
      have hlt := World.ownsRow.lt HB9.out b hb
      have e : w7.heap.size = b := Option.some.inj hk
      have h1 := (HXa.out.size)
      rw [World.size_alloc] at h1
      omega) hg4
    refine ⟨_, RS.of_own hown4, rfl, fun i hi hi' => ?_⟩
    rcases i with _ | _ | _ | _ | i
    · exact ap H18.out
    · exact ap H22.out
    · exact ap H26.out
    · exact ap9
    · exact absurd hi' (by simp only [List.length_cons, List.length_nil]; omega)
  have hS := RSequence_at _ _ _ hB4 (by have := HLA.out; have := HLS.out; have := HLE.out; have := HLR.out; simp; omega)
  rw [← HEN.out] at hS
  have HS := Lib.hid hS
  have HX9 := Lib.hid ((((HX8.out.trans HXb.out).alloc (.cells #[.slice A9 (encWrap 160 3 (encTime r)).length c9] 47))).grown hg4 (fun j hj => by have e : w7.heap.size = j := Option.some.inj hj; have := HX7.out.size; omega))
  clear hB4 hS hg4
  go_wp2_with fail
  refine HS.out.mono ?_
  rintro e w8 ⟨AA, cc, rfl, hbb, hxx⟩
  go_wp2
  go_ret
  exact ⟨AA, cc, rfl, hbb.up HX9.out, HX9.out.trans hxx⟩
theorem REncode_at (a s e r : Int) (w : World) :
    Calls Tryd.prog 37 #[.agg #[.int .i64 a, .int .i64 s, .int .i64 e, .int .i64 r]] w fun en w' => ∃ A c, en = .returned (.slice A (encTimes a s e r).length c) ∧ OB 5 w' w.heap.size (.slice A (encTimes a s e r).length c) (encTimes a s e r) ∧ Ext w w' := by
  by_cases hr : r = 0
  · exact REncode_zero a s e r hr w
  · exact REncode_full a s e r hr w
end Go.Proofs.YtfgmmjpejlpdoaaDoor
