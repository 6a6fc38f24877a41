/- Texts laid together (wip/tools/automerge.py): Nm19, Nm13. -/
import Derived.Test.YtgclchdccgkjaaaDoorMg30
import Derived.Test.YtgclchdccgkjaaaDoorMg11
import Derived.Test.YtgclchdccgkjaaaDoorMg26
namespace Go.Proofs.YtgclchdccgkjaaaDoor
open Go Go.RowKit
set_option linter.unusedVariables false

def fnz : List Int → Int
  | [] => 0
  | a :: l => if a ≠ 0 then a else fnz l
def iv (l : List Int) : List Value := l.map (.int .i64 ·)
theorem iv_length (l : List Int) : (iv l).length = l.length := by simp [iv]
theorem iv_get (l : List Int) (k : Nat) (h : k < l.length) : (iv l)[k]? = some (.int .i64 l[k]) := by simp [iv, h]

set_option maxRecDepth 100000 in
set_option maxHeartbeats 1000000 in
theorem or_at (A : Option Addr) (c : Nat) (xs : List Int) (hn : xs.length ≤ 1000) (w : World) (hR : RS w (.slice A xs.length c) (iv xs)) :
    Calls Tryd.prog 49 #[.slice A xs.length c] w fun e w' => e = .returned (.int .i64 (fnz xs)) ∧ w = w' := by
  obtain ⟨X, hX⟩ : ∃ X, fnz xs = X := ⟨_, rfl⟩
  rw [hX]
  have HX := Lib.hid hX
  have HR := Lib.hid hR
  clear hX hR
  go_enter Tryd.func49, Tryd.ntmps49
  go_wp2_with fail
  go_loopw [8] (fun i wr => ∃ k : Nat, k ≤ xs.length ∧ i = .int .i64 k ∧ Hid (fnz (xs.drop k) = X) ∧ wr = w) (fun i _ => xs.length - (intOf i).toNat)
  case atStart => exact ⟨0, Nat.zero_le _, rfl, HX, rfl⟩
  case round =>
    obtain ⟨k, hk1, rfl, HC, rfl⟩ := hrel
    by_cases h1 : k < xs.length
    · obtain ⟨A', c', he, e1, e2, e3⟩ := HR.out
      rw [iv_length] at e1 e3 he
      injection he with z1 _ z3
      subst z1; subst z3
      obtain ⟨ad, rfl, _, hcell⟩ := e3 (by omega)
      have g1 := hcell k _ (iv_get xs k h1)
      have HD := Lib.hid (show (if xs[k] ≠ 0 then xs[k] else fnz (xs.drop (k + 1))) = X by
        rw [← HC.out, List.drop_eq_getElem_cons h1, fnz])
      obtain ⟨z, hz⟩ : ∃ z, xs[k] = z := ⟨_, rfl⟩
      rw [hz] at g1 HD
      clear hcell e1 e2 e3 hz
      by_cases hz0 : z = 0
      · subst hz0
        have HD2 := Lib.hid (show fnz (xs.drop (k + 1)) = X by have := HD.out; rwa [if_neg (by simp)] at this)
        go_wp2_with fail
        go_roundw
        case rel => exact ⟨k + 1, by omega, by go_num, HD2, trivial⟩
        case measure => simp [intOf]; omega
      · have hzb : (z != 0) = true := by rw [bne_iff_ne]; exact hz0
        have HD2 := Lib.hid (show z = X by have := HD.out; rwa [if_pos hz0] at this)
        clear hz0
        go_wp2_with fail
        go_ret
        refine ⟨?_, rfl⟩
        rw [← HD2.out]; rfl
    · have hkp : k = xs.length := by omega
      subst hkp
      have HF := Lib.hid (show (0 : Int) = X by rw [← HC.out, List.drop_eq_nil_of_le (Nat.le_refl _)]; rfl)
      go_wp2_with fail
      go_ret
      refine ⟨?_, rfl⟩
      rw [← HF.out]; rfl
end Go.Proofs.YtgclchdccgkjaaaDoor
namespace Go.Proofs.YtgclchdccgkjaaaDoor
open Go Go.RowKit
set_option linter.unusedVariables false

theorem bsinfo' : (Tryd.prog.info? 38).map (fun i => (i.zero, i.size, i.bytes)) = some (some (.slice none 0 0), 1, 24) := by kernel_rfl
def VBn (L : List UInt8) (v : Value) (w : World) : Prop := ∃ A c, v = .slice A L.length c ∧ BS w (.slice A L.length c) L
theorem ba_eta (p : ByteArray) : (⟨p.data.toList.toArray⟩ : ByteArray) = p := by cases p; simp
/-- The encoding of a name. -/
def encName (ls : List (List UInt8)) (r : List UInt8) : List UInt8 := encSeq [encWrap 160 0 (encSeq (ls.map encString)), encWrap 160 1 (encString r)]

set_option maxRecDepth 100000 in
theorem NEncode_no (A : Option Addr) (c : Nat) (ps : List ByteArray) (r : ByteArray) (hps : ∀ p ∈ ps, p.size ≤ 4294967280) (hr : r.size ≤ 4294967280) (w : World) (hR : RS w (.slice A ps.length c) (sv ps)) (hv : nameB (dat ps) r.data.toList = false) :
    Calls Tryd.prog 23 #[.agg #[.slice A ps.length c, .string r]] w fun e w' => e = .returned (.tuple #[.slice none 0 0, .int .i64 2]) ∧ Ext w w' := by
  have hT := heap_alloc_new w (.cells #[.slice A ps.length c, .string r] 24)
  have hX := (Ext.refl w).alloc (.cells #[.slice A ps.length c, .string r] 24)
  obtain ⟨wb, hwb⟩ : ∃ wb, wb = w.alloc (.cells #[.slice A ps.length c, .string r] 24) := ⟨_, rfl⟩
  rw [← hwb] at hT hX
  have HT : Hid (PB wb w.heap.size (.slice A ps.length c) r) := Lib.hid hT
  have HX := Lib.hid hX
  have hV := NValid_at A c ps r hps hr wb (hR.ext hX)
  rw [hv] at hV
  have HV := Lib.hid hV
  obtain ⟨q0, q1⟩ := HT.out.cells
  clear hT hX hV hv hR hps hr
  go_enter Tryd.func23, Tryd.ntmps23
  go_wp2_with fail
  rw [← hwb]
  clear hwb
  refine HV.out.mono ?_
  rintro _ w1 ⟨rfl, hx1⟩
  have HX1 := Lib.hid (HX.out.trans hx1); clear hx1
  go_wp2_with fail
  go_ret2
  exact ⟨rfl, HX1.out⟩

set_option maxRecDepth 100000 in
set_option maxHeartbeats 2000000 in
theorem NEncode_yes (A : Option Addr) (c : Nat) (ps : List ByteArray) (r : ByteArray) (w : World) (hR : RS w (.slice A ps.length c) (sv ps)) (hv : nameB (dat ps) r.data.toList = true) :
    Calls Tryd.prog 23 #[.agg #[.slice A ps.length c, .string r]] w fun e w' => ∃ A' c', e = .returned (.tuple #[.slice A' (encName (dat ps) r.data.toList).length c', .int .i64 0]) ∧ OB 5 w' w.heap.size (.slice A' (encName (dat ps) r.data.toList).length c') (encName (dat ps) r.data.toList) ∧ Ext w w' := by
  obtain ⟨i0, hi, hz0, hz1, hz2⟩ := info_parts bsinfo'
  obtain ⟨v1, v2, v3, v4⟩ := nameB_parts hv
  rw [dat_length] at v2 v3
  have hr32 : r.size ≤ 32 := by rw [← size_list]; exact realmB_len v4
  have HV1 := Lib.hid v1
  obtain ⟨L, hL⟩ : ∃ L, encName (dat ps) r.data.toList = L := ⟨_, rfl⟩
  have HEN := Lib.hid (show L = encSeq [encWrap 160 0 (encSeq ((dat ps).map encString)), encWrap 160 1 (encString r.data.toList)] from hL.symm)
  rw [hL]
  obtain ⟨ES, hES⟩ : ∃ ES, (dat ps).map encString = ES := ⟨_, rfl⟩
  rw [hES] at HEN
  have HES := Lib.hid hES
  clear hL hES
  have hT := heap_alloc_new w (.cells #[.slice A ps.length c, .string r] 24)
  have hX := (Ext.refl w).alloc (.cells #[.slice A ps.length c, .string r] 24)
  obtain ⟨wb, hwb⟩ : ∃ wb, wb = w.alloc (.cells #[.slice A ps.length c, .string r] 24) := ⟨_, rfl⟩
  rw [← hwb] at hT hX
  have HT : Hid (PB wb w.heap.size (.slice A ps.length c) r) := Lib.hid hT
  have HX := Lib.hid hX; have HRS := Lib.hid hR
  have hV := NValid_at A c ps r (fun p hp => by obtain ⟨k, hk, rfl⟩ := List.getElem_of_mem hp; have := part_len v1 hk; omega) (by omega) wb (hR.ext hX)
  rw [hv] at hV
  have HV := Lib.hid hV
  obtain ⟨q0, q1⟩ := HT.out.cells
  clear hT hX hV hv hR v1 v4
  go_enter Tryd.func23, Tryd.ntmps23
  go_wp2_with fail
  rw [← hwb]
  clear hwb
  refine HV.out.mono ?_
  rintro _ w1 ⟨rfl, hx1⟩
  have HX1 := Lib.hid (HX.out.trans hx1); have HT1 := Lib.hid (HT.out.ext hx1); clear hx1
  obtain ⟨q0, q1⟩ := HT1.out.cells
  go_wp2_with fail
  clear q0 q1
  go_loopw [4, 6, 13] (fun v _ i wr => ∃ k : Nat, k ≤ ps.length ∧ i = .int .i64 k ∧ OV 38 wr (w.heap.size + 1) v (((dat ps).take k).map encString) ∧ PB wr w.heap.size (.slice A ps.length c) r ∧ Ext w wr) (fun _ _ i _ => ps.length - (intOf i).toNat)
  case atStart => exact ⟨0, Nat.zero_le _, rfl, OV.nil _ _ _, HT1.out, HX1.out⟩
  case round =>
    obtain ⟨k, hk, rfl, hbk, hpk, hxk⟩ := hrel
    have HBK := Lib.hid hbk; have HPK := Lib.hid hpk; have HXK := Lib.hid hxk
    clear hbk hpk hxk
    by_cases hlt : k < ps.length
    · obtain ⟨p, hp⟩ : ∃ p, ps[k] = p := ⟨_, rfl⟩
      have hp32 : p.size ≤ 32 := by rw [← hp]; exact part_len HV1.out hlt
      obtain ⟨pv, hpv⟩ : ∃ pv, Value.slice A ps.length c = pv := ⟨_, rfl⟩
      have HPV := Lib.hid hpv
      have HPQ : Hid (PB wr w.heap.size pv r) := Lib.hid (by rw [← hpv]; exact HPK.out)
      clear hpv
      obtain ⟨A', c', he, e1, e2, e3⟩ := HRS.out.ext HXK.out
      rw [sv_length] at e1 e3 he
      injection he with z1 _ z3
      subst z1; subst z3
      obtain ⟨ad, rfl, hblt, hcell⟩ := e3 (by omega)
      have hck := hcell k _ (sv_get ps k hlt)
      rw [hp] at hck
      have HTK := Lib.hid (show ((dat ps).take (k + 1)).map encString = ((dat ps).take k).map encString ++ [encString p.data.toList] by
        rw [List.take_succ_eq_append_getElem (by rw [dat_length]; exact hlt), List.map_append]
        simp [dat, hp])
      have HST := Lib.hid (show Calls Tryd.prog 40 #[.string p] wr _ from ba_eta p ▸ String_at p.data.toList wr (by rw [size_list]; unfold maxLen; omega))
      clear hcell e3 e2 e1 hblt hp
      go_wp2_with fail
      refine HST.out.mono ?_
      rintro _ w3 ⟨A3, c3, rfl, hb3, hx3⟩
      have HB3 := Lib.hid hb3; have HX3 := Lib.hid hx3; clear hb3 hx3
      have HAP := Lib.hid (show encString p.data.toList ≠ [] → ∀ b, (Value.slice A3 (encString p.data.toList).length c3).ownBlock = some b → Value.ownBlock u4 ≠ some b from fun _ b hb hv => by
        have h1 := World.ownsRow.lt HB3.out b hb
        have h2 := HBK.out.lt b hv
        omega)
      have HLE := Lib.hid (show ((((dat ps).take k).map encString).length + 1) * 24 ≤ 140737488355328 by rw [List.length_map, List.length_take, dat_length]; omega)
      go_wp2_with (at_builtin; refine wpList_append_ov _ rfl (.tmp 17) (.tmp 20) 59 rfl (w.heap.size + 1) 38 i0 (.slice none 0 0) 24 Tryd.underlying59 hi hz0 hz1 hz2 rfl _ _ rfl (HBK.out.ext (HX3.out.trans ((Ext.refl w3).alloc _))) _ (.slice A3 (encString p.data.toList).length c3) (encString p.data.toList) rfl (RS.one w3 _ _) (HB3.out.bs.ext ((Ext.refl w3).alloc _)) HAP.out HLE.out (by decide) ?hm ?_; rotate_right; intro v4 w4 hov4 hg4)
      case hm => have h1 := HPK.out.lt; have h2 := HX3.out.size; first | (simp; omega) | omega
      have HS4 := Lib.hid (own_step (HPQ.out.ext HX3.out) (HXK.out.trans HX3.out) (.cells #[.slice A3 (encString p.data.toList).length c3] 38) hg4 (fun j hj => (HBK.out.lt j hj).1))
      have HB4 := Lib.hid hov4
      clear hg4 hov4
      go_roundw
      case rel => exact ⟨k + 1, by omega, by go_num, by rw [HTK.out]; exact HB4.out, by rw [HPV.out]; exact HS4.out.1, HS4.out.2⟩
      case measure => simp [intOf]; omega
    · have hfe : ((dat ps).take k).map encString = ES := by rw [List.take_of_length_le (by rw [dat_length]; omega)]; exact HES.out
      have hb := HBK.out
      rw [hfe] at hb
      obtain ⟨A5, c5, rfl⟩ := hb.shape
      have HBS := Lib.hid hb.bss
      clear hb hfe HBK
      go_wp2_with fail
      refine wp_region_ext_tail 7 (fun i v' w' => match i with | 1 => VBn (encSeq ES) v' w' | 2 => VBn (encWrap 160 0 (encSeq ES)) v' w' | 5 => VBn (encString r.data.toList) v' w' | 6 => VBn (encWrap 160 1 (encString r.data.toList)) v' w' | _ => False) (by kernel_rfl) (by kernel_rfl) ?_
      refine wpE_op rfl rfl (fun w' hw' K' hK' => ?_)
      have hE := hw'.1
      go_step
      refine hK' _ ⟨_, rfl⟩ ?_
      clear hK' K'  hE hw' w'
      refine wpE_call 24 rfl (by simp) rfl (fun w' hw' K' hK' => ?_) ?_
      · have hE := hw'.1
        go_step
        refine (Sequence_at _ _ _ (HBS.out.ext ((Ext.drew wr).trans hE))).mono ?_
        rintro e w2 ⟨A2, c2, rfl, hb, hx⟩
        exact hK' _ _ ⟨_, rfl, A2, c2, rfl, hb.bs⟩ hx
      rintro _ w1x hE1 ⟨A1, c1, rfl, hb1⟩
      simp only [Act.put, List.setIfInBounds_toArray, List.set_cons_succ, List.set_cons_zero]
      refine wpE_call 25 rfl (by simp) rfl (fun w' hw' K' hK' => ?_) ?_
      · have hE := hw'.1
        have hM24 : Ext w1x w' := hw'.2 24 w1x (by simp [adds]) (by decide)
        go_step
        refine (Tagged_at 0 A1 c1 _ _ (hb1.ext hM24)).mono ?_
        rintro e w2 ⟨A2, c2, rfl, hb, hx⟩
        exact hK' _ _ ⟨_, rfl, A2, c2, rfl, hb.bs⟩ hx
      rintro _ w2x hE2 ⟨A2, c2, rfl, hb2⟩
      simp only [Act.put, List.setIfInBounds_toArray, List.set_cons_succ, List.set_cons_zero]
      refine wpE_op rfl rfl (fun w' hw' K' hK' => ?_)
      have hE := hw'.1
      go_step
      refine hK' _ ⟨_, rfl⟩ ?_
      clear hK' K'  hE hw' w'
      refine wpE_op rfl rfl (fun w' hw' K' hK' => ?_)
      have hE := hw'.1
      have u0 := (HPK.out.ext ((Ext.drew wr).trans hE)).cells.2
      go_step
      refine hK' _ ⟨_, rfl⟩ ?_
      clear hK' K' u0 hE hw' w'
      refine wpE_call 28 rfl (by simp) rfl (fun w' hw' K' hK' => ?_) ?_
      · have hE := hw'.1
        go_step
        refine ((show Calls Tryd.prog 40 #[.string r] _ _ from ba_eta r ▸ String_at r.data.toList _ (by rw [size_list]; unfold maxLen; omega))).mono ?_
        rintro e w2 ⟨A2, c2, rfl, hb, hx⟩
        exact hK' _ _ ⟨_, rfl, A2, c2, rfl, hb.bs⟩ hx
      rintro _ w3x hE3 ⟨A3, c3, rfl, hb3⟩
      simp only [Act.put, List.setIfInBounds_toArray, List.set_cons_succ, List.set_cons_zero]
      refine wpE_call 29 rfl (by simp) rfl (fun w' hw' K' hK' => ?_) ?_
      · have hE := hw'.1
        have hM28 : Ext w3x w' := hw'.2 28 w3x (by simp [adds]) (by decide)
        go_step
        refine (Tagged_at 1 A3 c3 _ _ (hb3.ext hM28)).mono ?_
        rintro e w2 ⟨A2, c2, rfl, hb, hx⟩
        exact hK' _ _ ⟨_, rfl, A2, c2, rfl, hb.bs⟩ hx
      rintro _ w4x hE4 ⟨A4, c4, rfl, hb4⟩
      simp only [Act.put, List.setIfInBounds_toArray, List.set_cons_succ, List.set_cons_zero]
      refine wpE_nil (fun w7 hw7 => ?_)
      have hx7 : Ext wr w7 := (Ext.drew wr).trans hw7.1
      have h25 := hb2.ext (hw7.2 25 w2x (by simp [adds])); have h29 := hb4.ext (hw7.2 29 w4x (by simp [adds]))
      have hS := Sequence_at _ _ _ (BSS.new2 w7 38 _ _ _ _ h25 h29)
      rw [← HEN.out] at hS
      have HS := Lib.hid hS; have HX7 := Lib.hid (HXK.out.trans hx7)
      clear hw7 h25 h29 hS hx7
      simp only [List.drop_succ_cons, List.drop_zero]
      go_wp2_with fail
      refine HS.out.mono ?_
      rintro _ w8 ⟨A8, c8, rfl, hb8, hx8⟩
      have hx9 := HX7.out.alloc (.cells #[.slice A2 (encWrap 160 0 (encSeq ES)).length c2, .slice A4 (encWrap 160 1 (encString r.data.toList)).length c4] 38)
      go_wp2_with fail
      go_ret2
      exact ⟨A8, c8, rfl, hb8.up hx9, hx9.trans hx8⟩
end Go.Proofs.YtgclchdccgkjaaaDoor
