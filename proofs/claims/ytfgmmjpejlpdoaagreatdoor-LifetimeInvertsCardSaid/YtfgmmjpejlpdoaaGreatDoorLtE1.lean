/- Lifetimes: Encode. (wip/tools/genlttext.py printed this.) -/
import Derived.Test.YtfgmmjpejlpdoaaGreatDoorLt3
import Derived.Test.YtfgmmjpejlpdoaaGreatDoorExt2
import Derived.Test.YtfgmmjpejlpdoaaGreatDoorDer4
import Derived.Deep.Cut
namespace Go.Proofs.YtfgmmjpejlpdoaaGreatDoor
open Go Go.RowKit
set_option linter.unusedVariables false

def VBt (L : List UInt8) (v : Value) (w : World) : Prop := ∃ A c, v = .slice A L.length c ∧ BS w (.slice A L.length c) L
/-- What Encode writes. -/
def encTimes (a s e r : Int) : List UInt8 := encSeq [encWrap 160 0 (encTime a), encWrap 160 1 (encTime s), encWrap 160 2 (encTime e), if r = 0 then [] else encWrap 160 3 (encTime r)]
theorem Encode_no (a s e r : Int) (hv : validB a s e r = false) (w : World) :
    Calls Tryz.prog 8 #[.agg #[.int .i64 a, .int .i64 s, .int .i64 e, .int .i64 r]] w fun en w' => en = .returned (.tuple #[.slice none 0 0, .int .i64 2]) ∧ Ext w w' := by
  have HV := Lib.hid (Valid_at a s e r (w.alloc (.cells #[.int .i64 a, .int .i64 s, .int .i64 e, .int .i64 r] 23)))
  rw [hv] at HV
  clear hv
  go_enter Tryz.func8, Tryz.ntmps8
  go_wp2_with fail
  refine HV.out.mono ?_
  rintro en w1 ⟨rfl, hx1⟩
  have HX1 := Lib.hid (((Ext.refl w).alloc (.cells #[.int .i64 a, .int .i64 s, .int .i64 e, .int .i64 r] 23)).trans hx1); clear hx1
  go_wp2
  go_ret2
  exact ⟨rfl, HX1.out⟩

set_option maxRecDepth 100000 in
set_option maxHeartbeats 4000000 in
theorem Encode_zero (a s e r : Int) (hv : validB a s e r = true) (hr : r = 0) (w : World) :
    Calls Tryz.prog 8 #[.agg #[.int .i64 a, .int .i64 s, .int .i64 e, .int .i64 r]] w fun en w' => ∃ A c, en = .returned (.tuple #[.slice A (encTimes a s e r).length c, .int .i64 0]) ∧ OB 5 w' w.heap.size (.slice A (encTimes a s e r).length c) (encTimes a s e r) ∧ Ext w w' := by
  obtain ⟨last, hlast⟩ : ∃ l, (if r = 0 then [] else encWrap 160 3 (encTime r)) = l := ⟨_, rfl⟩
  obtain ⟨L, hL⟩ : ∃ L, encTimes a s e r = L := ⟨_, rfl⟩
  have HEN := Lib.hid (show L = encSeq [encWrap 160 0 (encTime a), encWrap 160 1 (encTime s), encWrap 160 2 (encTime e), last] by rw [← hL, ← hlast]; rfl)
  rw [hL]
  clear hL
  have HV := Lib.hid (Valid_at a s e r (w.alloc (.cells #[.int .i64 a, .int .i64 s, .int .i64 e, .int .i64 r] 23)))
  rw [hv] at HV
  clear hv
  have HTA := Lib.hid (show TB (w.alloc (.cells #[.int .i64 a, .int .i64 s, .int .i64 e, .int .i64 r] 23)) w.heap.size a s e r from heap_alloc_new w _)
  have HXA := Lib.hid ((Ext.refl w).alloc (.cells #[.int .i64 a, .int .i64 s, .int .i64 e, .int .i64 r] 23))
  have hz : (r != 0) = false := by rw [bne_eq_false_iff_eq]; exact hr
  have hl0 : last = [] := by rw [← hlast, if_pos hr]
  have HL := Lib.hid hl0; clear hl0 hlast hr
  go_enter Tryz.func8, Tryz.ntmps8
  go_wp2_with fail
  refine HV.out.mono ?_
  rintro en wr ⟨rfl, hx1⟩
  obtain ⟨q0, q1, q2, q3⟩ := (HTA.out.ext hx1).cells
  have HT1 := Lib.hid (HTA.out.ext hx1); have HX1 := Lib.hid (HXA.out.trans hx1)
  clear hx1
  go_upto_region 6 with fail
  have HTr := HT1; have HXr := HX1
  obtain ⟨AL, cL, hvL, hbL⟩ : ∃ AL cL, (.slice none 0 0 : Value) = .slice AL last.length cL ∧ BS wr (.slice AL last.length cL) last := by
    rw [HL.out]; exact ⟨none, 0, rfl, (OB.nil 5 _ 0).bs⟩
  refine wp_region_ext_tail 13 (fun i v' w' => match i with | 2 => VBt (encTime a) v' w' | 3 => VBt (encWrap 160 0 (encTime a)) v' w' | 6 => VBt (encTime s) v' w' | 7 => VBt (encWrap 160 1 (encTime s)) v' w' | 10 => VBt (encTime e) v' w' | 11 => VBt (encWrap 160 2 (encTime e)) v' w' | _ => False) (by kernel_rfl) (by kernel_rfl) ?_
  refine wpE_op rfl rfl (fun w' hw' K' hK' => ?_)
  have hE := hw'.1
  go_step
  refine hK' _ ⟨_, rfl⟩ ?_
  clear hK' K'  hE hw' w'
  refine wpE_op rfl rfl (fun w' hw' K' hK' => ?_)
  have hE := hw'.1
  have u0 := (HTr.out.ext ((Ext.drew wr).trans hE)).cells.1
  go_step
  refine hK' _ ⟨_, rfl⟩ ?_
  clear hK' K' u0 hE hw' w'
  refine wpE_call 17 rfl (by simp) rfl (fun w' hw' K' hK' => ?_) ?_
  · have hE := hw'.1
    go_step
    refine (Time_at a _).mono ?_
    rintro e w2 ⟨A2, c2, rfl, hb, hx⟩
    exact hK' _ _ ⟨_, rfl, A2, c2, rfl, hb.bs⟩ hx
  rintro _ w1x hE1 ⟨A1, c1, rfl, hb1⟩
  simp only [Act.put, List.setIfInBounds_toArray, List.set_cons_succ, List.set_cons_zero]
  refine wpE_call 18 rfl (by simp) rfl (fun w' hw' K' hK' => ?_) ?_
  · have hE := hw'.1
    have hM17 : Ext w1x w' := hw'.2 17 w1x (by simp [adds]) (by decide)
    go_step
    refine (Tagged_at 0 A1 c1 _ _ (hb1.ext hM17)).mono ?_
    rintro e w2 ⟨A2, c2, rfl, hb, hx⟩
    exact hK' _ _ ⟨_, rfl, A2, c2, rfl, hb.bs⟩ hx
  rintro _ w2x hE2 ⟨A2, c2, rfl, hb2⟩
  simp only [Act.put, List.setIfInBounds_toArray, List.set_cons_succ, List.set_cons_zero]
  refine wpE_op rfl rfl (fun w' hw' K' hK' => ?_)
  have hE := hw'.1
  go_step
  refine hK' _ ⟨_, rfl⟩ ?_
  clear hK' K'  hE hw' w'
  refine wpE_op rfl rfl (fun w' hw' K' hK' => ?_)
  have hE := hw'.1
  have u0 := (HTr.out.ext ((Ext.drew wr).trans hE)).cells.2.1
  go_step
  refine hK' _ ⟨_, rfl⟩ ?_
  clear hK' K' u0 hE hw' w'
  refine wpE_call 21 rfl (by simp) rfl (fun w' hw' K' hK' => ?_) ?_
  · have hE := hw'.1
    go_step
    refine (Time_at s _).mono ?_
    rintro e w2 ⟨A2, c2, rfl, hb, hx⟩
    exact hK' _ _ ⟨_, rfl, A2, c2, rfl, hb.bs⟩ hx
  rintro _ w3x hE3 ⟨A3, c3, rfl, hb3⟩
  simp only [Act.put, List.setIfInBounds_toArray, List.set_cons_succ, List.set_cons_zero]
  refine wpE_call 22 rfl (by simp) rfl (fun w' hw' K' hK' => ?_) ?_
  · have hE := hw'.1
    have hM21 : Ext w3x w' := hw'.2 21 w3x (by simp [adds]) (by decide)
    go_step
    refine (Tagged_at 1 A3 c3 _ _ (hb3.ext hM21)).mono ?_
    rintro e w2 ⟨A2, c2, rfl, hb, hx⟩
    exact hK' _ _ ⟨_, rfl, A2, c2, rfl, hb.bs⟩ hx
  rintro _ w4x hE4 ⟨A4, c4, rfl, hb4⟩
  simp only [Act.put, List.setIfInBounds_toArray, List.set_cons_succ, List.set_cons_zero]
  refine wpE_op rfl rfl (fun w' hw' K' hK' => ?_)
  have hE := hw'.1
  go_step
  refine hK' _ ⟨_, rfl⟩ ?_
  clear hK' K'  hE hw' w'
  refine wpE_op rfl rfl (fun w' hw' K' hK' => ?_)
  have hE := hw'.1
  have u0 := (HTr.out.ext ((Ext.drew wr).trans hE)).cells.2.2.1
  go_step
  refine hK' _ ⟨_, rfl⟩ ?_
  clear hK' K' u0 hE hw' w'
  refine wpE_call 25 rfl (by simp) rfl (fun w' hw' K' hK' => ?_) ?_
  · have hE := hw'.1
    go_step
    refine (Time_at e _).mono ?_
    rintro e w2 ⟨A2, c2, rfl, hb, hx⟩
    exact hK' _ _ ⟨_, rfl, A2, c2, rfl, hb.bs⟩ hx
  rintro _ w5x hE5 ⟨A5, c5, rfl, hb5⟩
  simp only [Act.put, List.setIfInBounds_toArray, List.set_cons_succ, List.set_cons_zero]
  refine wpE_call 26 rfl (by simp) rfl (fun w' hw' K' hK' => ?_) ?_
  · have hE := hw'.1
    have hM25 : Ext w5x w' := hw'.2 25 w5x (by simp [adds]) (by decide)
    go_step
    refine (Tagged_at 2 A5 c5 _ _ (hb5.ext hM25)).mono ?_
    rintro e w2 ⟨A2, c2, rfl, hb, hx⟩
    exact hK' _ _ ⟨_, rfl, A2, c2, rfl, hb.bs⟩ hx
  rintro _ w6x hE6 ⟨A6, c6, rfl, hb6⟩
  simp only [Act.put, List.setIfInBounds_toArray, List.set_cons_succ, List.set_cons_zero]
  refine wpE_op rfl rfl (fun w' hw' K' hK' => ?_)
  have hE := hw'.1
  go_step
  refine hK' _ ⟨_, rfl⟩ ?_
  clear hK' K'  hE hw' w'
  refine wpE_nil (fun w7 hw7 => ?_)
  have hx7 : Ext wr w7 := (Ext.drew wr).trans hw7.1
  have h18 := hb2.ext (hw7.2 18 w2x (by simp [adds])); have h22 := hb4.ext (hw7.2 22 w4x (by simp [adds])); have h26 := hb6.ext (hw7.2 26 w6x (by simp [adds]))
  have hB4 := BSS.new w7 24 [.slice A2 (encWrap 160 0 (encTime a)).length c2, .slice A4 (encWrap 160 1 (encTime s)).length c4, .slice A6 (encWrap 160 2 (encTime e)).length c6, .slice AL last.length cL] [encWrap 160 0 (encTime a), encWrap 160 1 (encTime s), encWrap 160 2 (encTime e), last] 4 rfl rfl (by simp [maxLen]) (fun i hi h' => by
    rcases i with _ | _ | _ | _ | i
    · exact h18
    · exact h22
    · exact h26
    · exact hbL.ext hx7
    · simp at hi; omega)
  have hS := Sequence_at _ _ _ hB4
  rw [← HEN.out] at hS
  have HS := Lib.hid hS; have HX7 := Lib.hid hx7
  clear hw7 h18 h22 h26 hB4 hS hx7
  simp only [List.drop_succ_cons, List.drop_zero]
  go_wp2_with fail
  refine HS.out.mono ?_
  rintro e w8 ⟨A8, c8, rfl, hb8, hx8⟩
  have hx9 := HXr.out.trans (HX7.out.alloc (.cells #[.slice A2 (encWrap 160 0 (encTime a)).length c2, .slice A4 (encWrap 160 1 (encTime s)).length c4, .slice A6 (encWrap 160 2 (encTime e)).length c6, .slice AL last.length cL] 24))
  go_wp2
  go_ret2
  exact ⟨A8, c8, rfl, hb8.up hx9, hx9.trans hx8⟩

set_option maxRecDepth 100000 in
set_option maxHeartbeats 4000000 in
theorem Encode_full (a s e r : Int) (hv : validB a s e r = true) (hr : r ≠ 0) (w : World) :
    Calls Tryz.prog 8 #[.agg #[.int .i64 a, .int .i64 s, .int .i64 e, .int .i64 r]] w fun en w' => ∃ A c, en = .returned (.tuple #[.slice A (encTimes a s e r).length c, .int .i64 0]) ∧ OB 5 w' w.heap.size (.slice A (encTimes a s e r).length c) (encTimes a s e r) ∧ Ext w w' := by
  obtain ⟨last, hlast⟩ : ∃ l, (if r = 0 then [] else encWrap 160 3 (encTime r)) = l := ⟨_, rfl⟩
  obtain ⟨L, hL⟩ : ∃ L, encTimes a s e r = L := ⟨_, rfl⟩
  have HEN := Lib.hid (show L = encSeq [encWrap 160 0 (encTime a), encWrap 160 1 (encTime s), encWrap 160 2 (encTime e), encWrap 160 3 (encTime r)] by rw [← hL]; unfold encTimes; rw [if_neg hr])
  rw [hL]
  clear hL
  have HV := Lib.hid (Valid_at a s e r (w.alloc (.cells #[.int .i64 a, .int .i64 s, .int .i64 e, .int .i64 r] 23)))
  rw [hv] at HV
  clear hv
  have HTA := Lib.hid (show TB (w.alloc (.cells #[.int .i64 a, .int .i64 s, .int .i64 e, .int .i64 r] 23)) w.heap.size a s e r from heap_alloc_new w _)
  have HXA := Lib.hid ((Ext.refl w).alloc (.cells #[.int .i64 a, .int .i64 s, .int .i64 e, .int .i64 r] 23))
  have hz : (r != 0) = true := by rw [bne_iff_ne]; exact hr
  have hl0 : last = encWrap 160 3 (encTime r) := by rw [← hlast, if_neg hr]
  have HL := Lib.hid hl0; clear hl0 hlast hr
  go_enter Tryz.func8, Tryz.ntmps8
  go_wp2_with fail
  refine HV.out.mono ?_
  rintro en w1 ⟨rfl, hx1⟩
  obtain ⟨q0, q1, q2, q3⟩ := (HTA.out.ext hx1).cells
  have HT1 := Lib.hid (HTA.out.ext hx1); have HX1 := Lib.hid (HXA.out.trans hx1)
  clear hx1
  go_upto_region 6 with (first
    | (go_at_call 24; refine (Time_at r _).mono ?_; rintro e w2 ⟨A2, c2, rfl, hb2, hx2⟩; obtain ⟨q0, q1, q2, q3⟩ := (HT1.out.ext hx2).cells)
    | (go_at_call 23; refine (Tagged_at 3 A2 c2 _ _ hb2.bs).mono ?_; rintro e wr ⟨AL, cL, rfl, hbL, hx3⟩))
  have HTr := Lib.hid (HT1.out.ext (hx2.trans hx3)); have HXr := Lib.hid (HX1.out.trans (hx2.trans hx3))
  have hbL := hbL.bs
  clear hx2 hx3 hb2
  refine wp_region_ext_tail 13 (fun i v' w' => match i with | 2 => VBt (encTime a) v' w' | 3 => VBt (encWrap 160 0 (encTime a)) v' w' | 6 => VBt (encTime s) v' w' | 7 => VBt (encWrap 160 1 (encTime s)) v' w' | 10 => VBt (encTime e) v' w' | 11 => VBt (encWrap 160 2 (encTime e)) v' w' | _ => False) (by kernel_rfl) (by kernel_rfl) ?_
  refine wpE_op rfl rfl (fun w' hw' K' hK' => ?_)
  have hE := hw'.1
  go_step
  refine hK' _ ⟨_, rfl⟩ ?_
  clear hK' K'  hE hw' w'
  refine wpE_op rfl rfl (fun w' hw' K' hK' => ?_)
  have hE := hw'.1
  have u0 := (HTr.out.ext ((Ext.drew wr).trans hE)).cells.1
  go_step
  refine hK' _ ⟨_, rfl⟩ ?_
  clear hK' K' u0 hE hw' w'
  refine wpE_call 17 rfl (by simp) rfl (fun w' hw' K' hK' => ?_) ?_
  · have hE := hw'.1
    go_step
    refine (Time_at a _).mono ?_
    rintro e w2 ⟨A2, c2, rfl, hb, hx⟩
    exact hK' _ _ ⟨_, rfl, A2, c2, rfl, hb.bs⟩ hx
  rintro _ w1x hE1 ⟨A1, c1, rfl, hb1⟩
  simp only [Act.put, List.setIfInBounds_toArray, List.set_cons_succ, List.set_cons_zero]
  refine wpE_call 18 rfl (by simp) rfl (fun w' hw' K' hK' => ?_) ?_
  · have hE := hw'.1
    have hM17 : Ext w1x w' := hw'.2 17 w1x (by simp [adds]) (by decide)
    go_step
    refine (Tagged_at 0 A1 c1 _ _ (hb1.ext hM17)).mono ?_
    rintro e w2 ⟨A2, c2, rfl, hb, hx⟩
    exact hK' _ _ ⟨_, rfl, A2, c2, rfl, hb.bs⟩ hx
  rintro _ w2x hE2 ⟨A2, c2, rfl, hb2⟩
  simp only [Act.put, List.setIfInBounds_toArray, List.set_cons_succ, List.set_cons_zero]
  refine wpE_op rfl rfl (fun w' hw' K' hK' => ?_)
  have hE := hw'.1
  go_step
  refine hK' _ ⟨_, rfl⟩ ?_
  clear hK' K'  hE hw' w'
  refine wpE_op rfl rfl (fun w' hw' K' hK' => ?_)
  have hE := hw'.1
  have u0 := (HTr.out.ext ((Ext.drew wr).trans hE)).cells.2.1
  go_step
  refine hK' _ ⟨_, rfl⟩ ?_
  clear hK' K' u0 hE hw' w'
  refine wpE_call 21 rfl (by simp) rfl (fun w' hw' K' hK' => ?_) ?_
  · have hE := hw'.1
    go_step
    refine (Time_at s _).mono ?_
    rintro e w2 ⟨A2, c2, rfl, hb, hx⟩
    exact hK' _ _ ⟨_, rfl, A2, c2, rfl, hb.bs⟩ hx
  rintro _ w3x hE3 ⟨A3, c3, rfl, hb3⟩
  simp only [Act.put, List.setIfInBounds_toArray, List.set_cons_succ, List.set_cons_zero]
  refine wpE_call 22 rfl (by simp) rfl (fun w' hw' K' hK' => ?_) ?_
  · have hE := hw'.1
    have hM21 : Ext w3x w' := hw'.2 21 w3x (by simp [adds]) (by decide)
    go_step
    refine (Tagged_at 1 A3 c3 _ _ (hb3.ext hM21)).mono ?_
    rintro e w2 ⟨A2, c2, rfl, hb, hx⟩
    exact hK' _ _ ⟨_, rfl, A2, c2, rfl, hb.bs⟩ hx
  rintro _ w4x hE4 ⟨A4, c4, rfl, hb4⟩
  simp only [Act.put, List.setIfInBounds_toArray, List.set_cons_succ, List.set_cons_zero]
  refine wpE_op rfl rfl (fun w' hw' K' hK' => ?_)
  have hE := hw'.1
  go_step
  refine hK' _ ⟨_, rfl⟩ ?_
  clear hK' K'  hE hw' w'
  refine wpE_op rfl rfl (fun w' hw' K' hK' => ?_)
  have hE := hw'.1
  have u0 := (HTr.out.ext ((Ext.drew wr).trans hE)).cells.2.2.1
  go_step
  refine hK' _ ⟨_, rfl⟩ ?_
  clear hK' K' u0 hE hw' w'
  refine wpE_call 25 rfl (by simp) rfl (fun w' hw' K' hK' => ?_) ?_
  · have hE := hw'.1
    go_step
    refine (Time_at e _).mono ?_
    rintro e w2 ⟨A2, c2, rfl, hb, hx⟩
    exact hK' _ _ ⟨_, rfl, A2, c2, rfl, hb.bs⟩ hx
  rintro _ w5x hE5 ⟨A5, c5, rfl, hb5⟩
  simp only [Act.put, List.setIfInBounds_toArray, List.set_cons_succ, List.set_cons_zero]
  refine wpE_call 26 rfl (by simp) rfl (fun w' hw' K' hK' => ?_) ?_
  · have hE := hw'.1
    have hM25 : Ext w5x w' := hw'.2 25 w5x (by simp [adds]) (by decide)
    go_step
    refine (Tagged_at 2 A5 c5 _ _ (hb5.ext hM25)).mono ?_
    rintro e w2 ⟨A2, c2, rfl, hb, hx⟩
    exact hK' _ _ ⟨_, rfl, A2, c2, rfl, hb.bs⟩ hx
  rintro _ w6x hE6 ⟨A6, c6, rfl, hb6⟩
  simp only [Act.put, List.setIfInBounds_toArray, List.set_cons_succ, List.set_cons_zero]
  refine wpE_op rfl rfl (fun w' hw' K' hK' => ?_)
  have hE := hw'.1
  go_step
  refine hK' _ ⟨_, rfl⟩ ?_
  clear hK' K'  hE hw' w'
  refine wpE_nil (fun w7 hw7 => ?_)
  have hx7 : Ext wr w7 := (Ext.drew wr).trans hw7.1
  have h18 := hb2.ext (hw7.2 18 w2x (by simp [adds])); have h22 := hb4.ext (hw7.2 22 w4x (by simp [adds])); have h26 := hb6.ext (hw7.2 26 w6x (by simp [adds]))
  have hB4 := BSS.new w7 24 [.slice A2 (encWrap 160 0 (encTime a)).length c2, .slice A4 (encWrap 160 1 (encTime s)).length c4, .slice A6 (encWrap 160 2 (encTime e)).length c6, .slice AL (encWrap 160 3 (encTime r)).length cL] [encWrap 160 0 (encTime a), encWrap 160 1 (encTime s), encWrap 160 2 (encTime e), encWrap 160 3 (encTime r)] 4 rfl rfl (by simp [maxLen]) (fun i hi h' => by
    rcases i with _ | _ | _ | _ | i
    · exact h18
    · exact h22
    · exact h26
    · exact hbL.ext hx7
    · simp at hi; omega)
  have hS := Sequence_at _ _ _ hB4
  rw [← HEN.out] at hS
  have HS := Lib.hid hS; have HX7 := Lib.hid hx7
  clear hw7 h18 h22 h26 hB4 hS hx7
  simp only [List.drop_succ_cons, List.drop_zero]
  go_wp2_with fail
  refine HS.out.mono ?_
  rintro e w8 ⟨A8, c8, rfl, hb8, hx8⟩
  have hx9 := HXr.out.trans (HX7.out.alloc (.cells #[.slice A2 (encWrap 160 0 (encTime a)).length c2, .slice A4 (encWrap 160 1 (encTime s)).length c4, .slice A6 (encWrap 160 2 (encTime e)).length c6, .slice AL (encWrap 160 3 (encTime r)).length cL] 24))
  go_wp2
  go_ret2
  exact ⟨A8, c8, rfl, hb8.up hx9, hx9.trans hx8⟩
end Go.Proofs.YtfgmmjpejlpdoaaGreatDoor
