/- Texts laid together (wip/tools/automerge.py): Nm14, Nm20. -/
import Derived.Test.YtgclchdccgkjaaaDoorMg31
import Derived.Test.YtgclchdccgkjaaaDoorMg32
namespace Go.Proofs.YtgclchdccgkjaaaDoor
open Go Go.RowKit
set_option linter.unusedVariables false

theorem flat_bd : ∀ (ls : List (List UInt8)), (∀ l ∈ ls, l.length ≤ 1000) → (ls.map encString).flatten.length ≤ 1005 * ls.length
  | [], _ => by simp
  | l :: r, h => by
    have h1 := flat_bd r (fun x hx => h x (by simp [hx]))
    have h2 := h l (by simp)
    have h3 : (encString l).length ≤ l.length + 5 := elem_le _ _
    rw [List.map_cons, List.flatten_cons, List.length_append, List.length_cons]
    omega
theorem encW_le (tag n : Int) (l : List UInt8) : (encWrap tag n l).length ≤ l.length + 5 := by
  unfold encWrap
  split
  · exact elem_le _ _
  · simp
set_option maxRecDepth 100000 in
set_option maxHeartbeats 2000000 in
theorem RNEncode_at (A : Option Addr) (c : Nat) (ps : List ByteArray) (r : ByteArray) (hn : ps.length ≤ 1000) (hps : ∀ p ∈ ps, p.size ≤ 1000) (hr : r.size ≤ 1000) (w : World) (hR : RS w (.slice A ps.length c) (sv ps)) :
    Calls Tryd.prog 24 #[.agg #[.slice A ps.length c, .string r]] w fun e w' => ∃ A' c', e = .returned (.slice A' (encName (dat ps) r.data.toList).length c') ∧ OB 5 w' w.heap.size (.slice A' (encName (dat ps) r.data.toList).length c') (encName (dat ps) r.data.toList) ∧ Ext w w' := by
  obtain ⟨i0, hi, hz0, hz1, hz2⟩ := info_parts bsinfo'
  have hfl : ((dat ps).map encString).flatten.length ≤ 1005000 := by
    have := flat_bd (dat ps) (fun l hl => by
      obtain ⟨p, hp, rfl⟩ := List.mem_map.1 hl
      have := hps p hp
      rw [size_list]; exact this)
    rw [dat_length] at this
    omega
  obtain ⟨L, hL⟩ : ∃ L, encName (dat ps) r.data.toList = L := ⟨_, rfl⟩
  have HEN := Lib.hid (show L = encSeq [encWrap 160 0 (encSeq ((dat ps).map encString)), encWrap 160 1 (encString r.data.toList)] from hL.symm)
  rw [hL]
  obtain ⟨ES, hES⟩ : ∃ ES, (dat ps).map encString = ES := ⟨_, rfl⟩
  rw [hES] at HEN hfl
  have HES := Lib.hid hES
  have HTT := Lib.hid (show ES.flatten.length ≤ 70368744177664 by omega)
  have HT2 := Lib.hid (show [encWrap 160 0 (encSeq ES), encWrap 160 1 (encString r.data.toList)].flatten.length ≤ 70368744177664 by
    have a1 := encW_le 160 0 (encSeq ES)
    have a2 := encW_le 160 1 (encString r.data.toList)
    have a3 : (encSeq ES).length ≤ ES.flatten.length + 5 := elem_le _ _
    have a4 : (encString r.data.toList).length ≤ r.data.toList.length + 5 := elem_le _ _
    rw [size_list] at a4
    simp only [List.flatten_cons, List.flatten_nil, List.append_nil, List.length_append]
    omega)
  clear hL hES hfl
  have hT := heap_alloc_new w (.cells #[.slice A ps.length c, .string r] 24)
  have hX := (Ext.refl w).alloc (.cells #[.slice A ps.length c, .string r] 24)
  obtain ⟨wb, hwb⟩ : ∃ wb, wb = w.alloc (.cells #[.slice A ps.length c, .string r] 24) := ⟨_, rfl⟩
  rw [← hwb] at hT hX
  have HT1 : Hid (PB wb w.heap.size (.slice A ps.length c) r) := Lib.hid hT
  have HX1 := Lib.hid hX; have HRS := Lib.hid hR; have HPS := Lib.hid hps
  clear hT hX hR hps
  go_enter Tryd.func24, Tryd.ntmps24
  go_wp2_with fail
  rw [← hwb]
  clear hwb
  go_loopw [3, 4] (fun v i wr => ∃ k : Nat, k ≤ ps.length ∧ i = .int .i64 k ∧ OV 38 wr (w.heap.size + 1) v (((dat ps).take k).map encString) ∧ PB wr w.heap.size (.slice A ps.length c) r ∧ Ext w wr) (fun _ i _ => ps.length - (intOf i).toNat)
  case atStart => exact ⟨0, Nat.zero_le _, rfl, OV.nil _ _ _, HT1.out, HX1.out⟩
  case round =>
    obtain ⟨k, hk, rfl, hbk, hpk, hxk⟩ := hrel
    have HBK := Lib.hid hbk; have HPK := Lib.hid hpk; have HXK := Lib.hid hxk
    clear hbk hpk hxk
    by_cases hlt : k < ps.length
    · obtain ⟨p, hp⟩ : ∃ p, ps[k] = p := ⟨_, rfl⟩
      have hp32 : p.size ≤ 1000 := by rw [← hp]; exact HPS.out _ (List.getElem_mem hlt)
      obtain ⟨k0, k1⟩ := HPK.out.cells
      obtain ⟨pv, hpv⟩ : ∃ pv, Value.slice A ps.length c = pv := ⟨_, rfl⟩
      have HPV := Lib.hid hpv
      have HPQ : Hid (PB wr w.heap.size pv r) := Lib.hid (by rw [← hpv]; exact HPK.out)
      clear hpv
      obtain ⟨A', c', he, e1, e2, e3⟩ := HRS.out.ext HXK.out
      rw [sv_length] at e1 e3 he
      injection he with z1 _ z3
      subst z1; subst z3
      obtain ⟨ad, rfl, hblt, hcell⟩ := e3 (by omega)
      have hck := hcell k _ (sv_get ps k hlt)
      rw [hp] at hck
      have HTK := Lib.hid (show ((dat ps).take (k + 1)).map encString = ((dat ps).take k).map encString ++ [encString p.data.toList] by
        rw [List.take_succ_eq_append_getElem (by rw [dat_length]; exact hlt), List.map_append]
        simp [dat, hp])
      have HST := Lib.hid (show Calls Tryd.prog 43 #[.string p] wr _ from ba_eta p ▸ RString_at p.data.toList wr (by rw [size_list]; unfold maxLen; omega))
      clear hcell e3 e2 e1 hblt hp
      go_wp2_with fail
      refine HST.out.mono ?_
      rintro _ w3 ⟨A3, c3, rfl, hb3, hx3⟩
      have HB3 := Lib.hid hb3; have HX3 := Lib.hid hx3; clear hb3 hx3
      have HAP := Lib.hid (show encString p.data.toList ≠ [] → ∀ b, (Value.slice A3 (encString p.data.toList).length c3).ownBlock = some b → Value.ownBlock u3 ≠ some b from fun _ b hb hv => by
        have h1 := World.ownsRow.lt HB3.out b hb
        have h2 := HBK.out.lt b hv
        omega)
      have HLE := Lib.hid (show ((((dat ps).take k).map encString).length + 1) * 24 ≤ 140737488355328 by rw [List.length_map, List.length_take, dat_length]; omega)
      go_wp2_with (at_builtin; refine wpList_append_ov _ rfl (.tmp 12) (.tmp 19) 59 rfl (w.heap.size + 1) 38 i0 (.slice none 0 0) 24 Tryd.underlying59 hi hz0 hz1 hz2 rfl _ _ rfl (HBK.out.ext (HX3.out.trans ((Ext.refl w3).alloc _))) _ (.slice A3 (encString p.data.toList).length c3) (encString p.data.toList) rfl (RS.one w3 _ _) (HB3.out.bs.ext ((Ext.refl w3).alloc _)) HAP.out HLE.out (by decide) ?hm ?_; rotate_right; intro v4 w4 hov4 hg4)
      case hm => have h1 := HPK.out.lt; have h2 := HX3.out.size; first | (simp; omega) | omega
      have HS4 := Lib.hid (own_step (HPQ.out.ext HX3.out) (HXK.out.trans HX3.out) (.cells #[.slice A3 (encString p.data.toList).length c3] 38) hg4 (fun j hj => (HBK.out.lt j hj).1))
      have HB4 := Lib.hid hov4
      clear hg4 hov4
      go_roundw
      case rel => exact ⟨k + 1, by omega, by go_num, by rw [HTK.out]; exact HB4.out, by rw [HPV.out]; exact HS4.out.1, HS4.out.2⟩
      case measure => simp [intOf]; omega
    · have hfe : ((dat ps).take k).map encString = ES := by rw [List.take_of_length_le (by rw [dat_length]; omega)]; exact HES.out
      have hb := HBK.out
      rw [hfe] at hb
      obtain ⟨A5, c5, rfl⟩ := hb.shape
      have HBS := Lib.hid hb.bss
      obtain ⟨k0, k1⟩ := HPK.out.cells
      clear hb hfe HBK
      go_wp2_with fail
      refine wp_region_ext_tail 7 (fun i v' w' => match i with | 1 => VBn (encSeq ES) v' w' | 2 => VBn (encWrap 160 0 (encSeq ES)) v' w' | 5 => VBn (encString r.data.toList) v' w' | 6 => VBn (encWrap 160 1 (encString r.data.toList)) v' w' | _ => False) (by kernel_rfl) (by kernel_rfl) ?_
      refine wpE_op rfl rfl (fun w' hw' K' hK' => ?_)
      have hE := hw'.1
      go_step
      refine hK' _ ⟨_, rfl⟩ ?_
      clear hK' K'  hE hw' w'
      refine wpE_call 22 rfl (by simp) rfl (fun w' hw' K' hK' => ?_) ?_
      · have hE := hw'.1
        go_step
        refine (RSequence_at _ _ _ (HBS.out.ext ((Ext.drew wr).trans hE)) HTT.out).mono ?_
        rintro e w2 ⟨A2, c2, rfl, hb, hx⟩
        exact hK' _ _ ⟨_, rfl, A2, c2, rfl, hb.bs⟩ hx
      rintro _ w1x hE1 ⟨A1, c1, rfl, hb1⟩
      simp only [Act.put, List.setIfInBounds_toArray, List.set_cons_succ, List.set_cons_zero]
      refine wpE_call 23 rfl (by simp) rfl (fun w' hw' K' hK' => ?_) ?_
      · have hE := hw'.1
        have hM24 : Ext w1x w' := hw'.2 22 w1x (by simp [adds]) (by decide)
        go_step
        refine (RTagged_at 0 A1 c1 _ _ (hb1.ext hM24)).mono ?_
        rintro e w2 ⟨A2, c2, rfl, hb, hx⟩
        exact hK' _ _ ⟨_, rfl, A2, c2, rfl, hb.bs⟩ hx
      rintro _ w2x hE2 ⟨A2, c2, rfl, hb2⟩
      simp only [Act.put, List.setIfInBounds_toArray, List.set_cons_succ, List.set_cons_zero]
      refine wpE_op rfl rfl (fun w' hw' K' hK' => ?_)
      have hE := hw'.1
      go_step
      refine hK' _ ⟨_, rfl⟩ ?_
      clear hK' K'  hE hw' w'
      refine wpE_op rfl rfl (fun w' hw' K' hK' => ?_)
      have hE := hw'.1
      have u0 := (HPK.out.ext ((Ext.drew wr).trans hE)).cells.2
      go_step
      refine hK' _ ⟨_, rfl⟩ ?_
      clear hK' K' u0 hE hw' w'
      refine wpE_call 26 rfl (by simp) rfl (fun w' hw' K' hK' => ?_) ?_
      · have hE := hw'.1
        go_step
        refine ((show Calls Tryd.prog 43 #[.string r] _ _ from ba_eta r ▸ RString_at r.data.toList _ (by rw [size_list]; unfold maxLen; omega))).mono ?_
        rintro e w2 ⟨A2, c2, rfl, hb, hx⟩
        exact hK' _ _ ⟨_, rfl, A2, c2, rfl, hb.bs⟩ hx
      rintro _ w3x hE3 ⟨A3, c3, rfl, hb3⟩
      simp only [Act.put, List.setIfInBounds_toArray, List.set_cons_succ, List.set_cons_zero]
      refine wpE_call 27 rfl (by simp) rfl (fun w' hw' K' hK' => ?_) ?_
      · have hE := hw'.1
        have hM28 : Ext w3x w' := hw'.2 26 w3x (by simp [adds]) (by decide)
        go_step
        refine (RTagged_at 1 A3 c3 _ _ (hb3.ext hM28)).mono ?_
        rintro e w2 ⟨A2, c2, rfl, hb, hx⟩
        exact hK' _ _ ⟨_, rfl, A2, c2, rfl, hb.bs⟩ hx
      rintro _ w4x hE4 ⟨A4, c4, rfl, hb4⟩
      simp only [Act.put, List.setIfInBounds_toArray, List.set_cons_succ, List.set_cons_zero]
      refine wpE_nil (fun w7 hw7 => ?_)
      have hx7 : Ext wr w7 := (Ext.drew wr).trans hw7.1
      have h25 := hb2.ext (hw7.2 23 w2x (by simp [adds])); have h29 := hb4.ext (hw7.2 27 w4x (by simp [adds]))
      have hS := RSequence_at _ _ _ (BSS.new2 w7 38 _ _ _ _ h25 h29) HT2.out
      rw [← HEN.out] at hS
      have HS := Lib.hid hS; have HX7 := Lib.hid (HXK.out.trans hx7)
      clear hw7 h25 h29 hS hx7
      simp only [List.drop_succ_cons, List.drop_zero]
      go_wp2_with fail
      refine HS.out.mono ?_
      rintro _ w8 ⟨A8, c8, rfl, hb8, hx8⟩
      have hx9 := HX7.out.alloc (.cells #[.slice A2 (encWrap 160 0 (encSeq ES)).length c2, .slice A4 (encWrap 160 1 (encString r.data.toList)).length c4] 38)
      go_wp2_with fail
      go_ret
      exact ⟨A8, c8, rfl, hb8.up hx9, hx9.trans hx8⟩
end Go.Proofs.YtgclchdccgkjaaaDoor
namespace Go.Proofs.YtgclchdccgkjaaaDoor
open Go Go.RowKit
set_option linter.unusedVariables false

set_option maxRecDepth 100000 in
set_option maxHeartbeats 1000000 in
theorem NCompare_at (A : Option Addr) (c : Nat) (ps : List ByteArray) (r : ByteArray) (B : Option Addr) (d : Nat) (qs : List ByteArray) (t : ByteArray) (hn : ps.length ≤ 1000) (hm : qs.length ≤ 1000) (w : World) (hR : RS w (.slice A ps.length c) (sv ps)) (hQ : RS w (.slice B qs.length d) (sv qs)) :
    Calls Tryd.prog 30 #[.agg #[.slice A ps.length c, .string r], .agg #[.slice B qs.length d, .string t]] w fun e w' => e = .returned (.int .i64 (cmpN (dat ps) r.data.toList (dat qs) t.data.toList)) ∧ Ext w w' := by
  have hT := heap_alloc_new w (.cells #[.slice A ps.length c, .string r] 24)
  have hU := heap_alloc_new (w.alloc (.cells #[.slice A ps.length c, .string r] 24)) (.cells #[.slice B qs.length d, .string t] 24)
  rw [World.size_alloc] at hU
  have x1 := (Ext.refl w).alloc (.cells #[.slice A ps.length c, .string r] 24)
  have x2 := (Ext.refl (w.alloc (.cells #[.slice A ps.length c, .string r] 24))).alloc (.cells #[.slice B qs.length d, .string t] 24)
  have hT2 := x2.heap hT
  have hx := x1.trans x2
  obtain ⟨wb, hwb⟩ : ∃ wb, wb = (w.alloc (.cells #[.slice A ps.length c, .string r] 24)).alloc (.cells #[.slice B qs.length d, .string t] 24) := ⟨_, rfl⟩
  rw [← hwb] at hT2 hU hx
  have HT : Hid (PB wb w.heap.size (.slice A ps.length c) r) := Lib.hid hT2
  have HU : Hid (PB wb (w.heap.size + 1) (.slice B qs.length d) t) := Lib.hid hU
  have HXB := Lib.hid hx
  have HR := Lib.hid (hR.ext hx); have HQ := Lib.hid (hQ.ext hx)
  clear hT hT2 hU hx x1 x2 hR hQ
  obtain ⟨X, hX⟩ : ∃ X, ordB r.data.toList t.data.toList = X := ⟨_, rfl⟩
  obtain ⟨Y, hY⟩ : ∃ Y, cmpL (dat ps) (dat qs) = Y := ⟨_, rfl⟩
  have HO := Lib.hid (show fnz [X, Y] = cmpN (dat ps) r.data.toList (dat qs) t.data.toList by
    unfold cmpN; rw [hX, hY, fnz, fnz, fnz]; by_cases h : X = 0 <;> by_cases h2 : Y = 0 <;> simp [h, h2])
  obtain ⟨Z, hZ⟩ : ∃ Z, cmpN (dat ps) r.data.toList (dat qs) t.data.toList = Z := ⟨_, rfl⟩
  rw [hZ] at HO ⊢
  clear hZ
  have HXY := Lib.hid hX; have HYY := Lib.hid hY; clear hX hY
  go_enter Tryd.func30, Tryd.ntmps30
  go_wp2_with fail
  rw [← hwb]
  clear hwb
  refine wp_region_ext (fun i v' w' => match i with | 4 => v' = .int .i64 X | 9 => v' = .int .i64 Y | 10 => RS w' v' (iv [X, Y]) | 11 => v' = .int .i64 Z | _ => False) (by kernel_rfl) (by kernel_rfl) ?_
  refine wpE_op rfl rfl (fun w' hw' K' hK' => ?_)
  have hE := hw'.1
  go_step
  refine hK' _ ⟨_, rfl⟩ ?_
  clear hK' K' hE hw' w'
  refine wpE_op rfl rfl (fun w' hw' K' hK' => ?_)
  have hE := hw'.1
  obtain ⟨u0, u1⟩ := (HT.out.ext ((Ext.drew wb).trans hE)).cells
  go_step
  refine hK' _ ⟨_, rfl⟩ ?_
  clear hK' K' u0 u1 hE hw' w'
  refine wpE_op rfl rfl (fun w' hw' K' hK' => ?_)
  have hE := hw'.1
  go_step
  refine hK' _ ⟨_, rfl⟩ ?_
  clear hK' K' hE hw' w'
  refine wpE_op rfl rfl (fun w' hw' K' hK' => ?_)
  have hE := hw'.1
  obtain ⟨u0, u1⟩ := (HU.out.ext ((Ext.drew wb).trans hE)).cells
  go_step
  refine hK' _ ⟨_, rfl⟩ ?_
  clear hK' K' u0 u1 hE hw' w'
  refine wpE_call 9 rfl (by simp) rfl (fun w' hw' K' hK' => ?_) ?_
  · have hE := hw'.1
    go_step
    refine (cmpS_at r t w').mono ?_
    rintro en w2 ⟨rfl, rfl⟩
    exact hK' _ _ ⟨_, rfl, by rw [HXY.out]; exact Eq.refl (Value.int .i64 X)⟩ (Ext.refl _)
  rintro _ w7 _ rfl
  simp only [Act.put, List.setIfInBounds_toArray, List.set_cons_succ, List.set_cons_zero]
  refine wpE_op rfl rfl (fun w' hw' K' hK' => ?_)
  have hE := hw'.1
  go_step
  refine hK' _ ⟨_, rfl⟩ ?_
  clear hK' K' hE hw' w'
  refine wpE_op rfl rfl (fun w' hw' K' hK' => ?_)
  have hE := hw'.1
  obtain ⟨u0, u1⟩ := (HT.out.ext ((Ext.drew wb).trans hE)).cells
  go_step
  refine hK' _ ⟨_, rfl⟩ ?_
  clear hK' K' u0 u1 hE hw' w'
  refine wpE_op rfl rfl (fun w' hw' K' hK' => ?_)
  have hE := hw'.1
  go_step
  refine hK' _ ⟨_, rfl⟩ ?_
  clear hK' K' hE hw' w'
  refine wpE_op rfl rfl (fun w' hw' K' hK' => ?_)
  have hE := hw'.1
  obtain ⟨u0, u1⟩ := (HU.out.ext ((Ext.drew wb).trans hE)).cells
  go_step
  refine hK' _ ⟨_, rfl⟩ ?_
  clear hK' K' u0 u1 hE hw' w'
  refine wpE_call 14 rfl (by simp) rfl (fun w' hw' K' hK' => ?_) ?_
  · have hE := hw'.1
    go_step
    refine (sCompare_at A c ps B d qs hn hm w' (HR.out.ext ((Ext.drew wb).trans hE)) (HQ.out.ext ((Ext.drew wb).trans hE))).mono ?_
    rintro en w2 ⟨rfl, rfl⟩
    exact hK' _ _ ⟨_, rfl, by rw [HYY.out]; exact Eq.refl (Value.int .i64 Y)⟩ (Ext.refl _)
  rintro _ w7 _ rfl
  simp only [Act.put, List.setIfInBounds_toArray, List.set_cons_succ, List.set_cons_zero]
  refine wpE_call 15 rfl (by simp) rfl (fun w' hw' K' hK' => ?_) ?_
  · have hE := hw'.1
    go_step
    exact hK' _ _ ⟨_, rfl, RS.new w' 3 (iv [X, Y]) (by simp [iv, maxLen])⟩ ((Ext.refl w').alloc _)
  rintro v8 w8 _ ⟨A8, c8, rfl, hl8, hm8, hc8⟩
  have hR8 : RS w8 (.slice A8 (iv [X, Y]).length c8) (iv [X, Y]) := ⟨A8, c8, rfl, hl8, hm8, hc8⟩
  clear hl8 hm8 hc8
  simp only [Act.put, List.setIfInBounds_toArray, List.set_cons_succ, List.set_cons_zero]
  refine wpE_call 16 rfl (by simp) rfl (fun w' hw' K' hK' => ?_) ?_
  · have hE := hw'.1
    have hM : Ext w8 w' := hw'.2 15 w8 (by simp [adds]) (by decide)
    go_step
    refine (or_at A8 c8 [X, Y] (by simp) w' (hR8.ext hM)).mono ?_
    rintro en w2 ⟨rfl, rfl⟩
    exact hK' _ _ ⟨_, rfl, by rw [HO.out]; exact Eq.refl (Value.int .i64 Z)⟩ (Ext.refl _)
  rintro _ w9 _ rfl
  simp only [Act.put, List.setIfInBounds_toArray, List.set_cons_succ, List.set_cons_zero]
  refine wpE_op rfl rfl (fun w' hw' K' hK' => ?_)
  have hE := hw'.1
  go_step
  refine hK' _ ⟨_, rfl⟩ ?_
  clear hK' K' hE hw' w'
  refine wpE_nil (fun w' hw' => ?_)
  have hE := hw'.1
  go_wp2_with fail
  go_ret
  exact ⟨rfl, HXB.out.trans ((Ext.drew wb).trans hE)⟩
end Go.Proofs.YtgclchdccgkjaaaDoor
