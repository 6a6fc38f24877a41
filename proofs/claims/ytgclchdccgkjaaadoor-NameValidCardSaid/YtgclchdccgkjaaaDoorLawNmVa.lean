/- NameValid: the law. (wip/tools/gennmlaw.py printed this.) -/
import Derived.Test.YtgclchdccgkjaaaDoorLawNmEn
namespace Go.Proofs.YtgclchdccgkjaaaDoor.nameValid
open Go Go.RowKit
set_option linter.unusedVariables false

set_option maxRecDepth 100000 in
set_option maxHeartbeats 4000000 in
theorem law_walk (A : Option Addr) (c : Nat) (ps : List ByteArray) (r : ByteArray) (s : ByteArray) (w : World) (hR : RS w (.slice A ps.length c) (sv ps)) (hm : MaxN w) :
    Calls Tryd.prog 3 #[.agg #[.slice A ps.length c, .string r], .string s] w fun e w' => e = .returned (.bool true) ∧ Ext w w' := by
  have HM := Lib.hid hm; clear hm
  have hT := heap_alloc_new w (.cells #[.slice A ps.length c, .string r] 24)
  have hX := (Ext.refl w).alloc (.cells #[.slice A ps.length c, .string r] 24)
  obtain ⟨wb, hwb⟩ : ∃ wb, wb = w.alloc (.cells #[.slice A ps.length c, .string r] 24) := ⟨_, rfl⟩
  rw [← hwb] at hT hX
  have HT : Hid (PB wb w.heap.size (.slice A ps.length c) r) := Lib.hid hT
  have HX := Lib.hid hX
  have HRS := Lib.hid (hR.ext hX)
  obtain ⟨q0, q1⟩ := HT.out.cells
  have HBG := big_at A c ps r wb HRS.out
  have HB := Lib.hid HBG; clear HBG
  cases hbig : bigB ps r with
  | true =>
    rw [hbig] at HB
    clear hbig hT hX hR
    go_enter Tryd.func3, Tryd.ntmps3
    go_wp2_with fail
    rw [← hwb]
    clear hwb
    refine HB.out.mono ?_
    rintro _ w1 ⟨rfl, hx1⟩
    have HX1 := Lib.hid (HX.out.trans hx1); clear hx1
    go_wp2_with fail
    refine (known_at _ (HM.out.ext (HX1.out))).mono ?_
    rintro _ wk ⟨rfl, hxk⟩
    go_wp2_with fail
    go_ret
    exact ⟨rfl, (HX1.out).trans hxk⟩
  | false =>
    rw [hbig] at HB
    obtain ⟨hps, hn8, hr60⟩ := bigB_no hbig
    by_cases h60 : 60 < s.size
    · have h60' : (60 : Int) < (s.size : Int) := by omega
      clear hbig hT hX hR h60
      go_enter Tryd.func3, Tryd.ntmps3
      go_wp2_with fail
      rw [← hwb]
      clear hwb
      refine HB.out.mono ?_
      rintro _ w1 ⟨rfl, hx1⟩
      have HX1 := Lib.hid (HX.out.trans hx1); clear hx1
      go_wp2_with fail
      refine (known_at _ (HM.out.ext (HX1.out))).mono ?_
      rintro _ wk ⟨rfl, hxk⟩
      go_wp2_with fail
      go_ret
      exact ⟨rfl, (HX1.out).trans hxk⟩
    have h60' : decide ((60 : Int) < (s.size : Int)) = false := decide_eq_false (by omega)
    have hs4 : s.size ≤ 4294967280 := by omega
    have hps2 : ∀ p ∈ ps, p.size ≤ 1000 := fun p hp => Nat.le_trans (hps p hp) (by omega)
    have hps3 : ∀ p ∈ ps, p.size ≤ 4294967280 := fun p hp => Nat.le_trans (hps p hp) (by omega)
    have HRV := Lib.hid (fun W hW => RValid_at A c ps r (by omega) hps3 (by omega) W (hR.ext (hX.trans hW)))
    have HNV := Lib.hid (fun W hW => NValid_at A c ps r hps3 (by omega) W (hR.ext (hX.trans hW)))
    have HRA := Lib.hid (Realm_at s hs4); have HRB := Lib.hid (RRealm_at s hs4)
    have HPA := Lib.hid (Part_at s hs4); have HPB := Lib.hid (RPart_at s hs4)
    obtain ⟨b1, hb1⟩ : ∃ b1, realmB s.data.toList = b1 := ⟨_, rfl⟩
    obtain ⟨b2, hb2⟩ : ∃ b2, partB s.data.toList = b2 := ⟨_, rfl⟩
    rw [hb1] at HRA HRB
    rw [hb2] at HPA HPB
    clear hbig hT hX hR hps h60 hb1 hb2
    cases hv : nameB (dat ps) r.data.toList with
    | false =>
      have HTX := Lib.hid (NText_no A c ps r hps3 (by omega))
      have HV := Lib.hid hv
      rw [hv] at HRV HNV
      clear hv
      go_enter Tryd.func3, Tryd.ntmps3
      go_wp2_with fail
      rw [← hwb]
      clear hwb
      refine HB.out.mono ?_
      rintro _ w1 ⟨rfl, hx1⟩
      have HX1 := Lib.hid hx1; clear hx1 q0 q1
      have HT1 := Lib.hid (HT.out.ext HX1.out)
      go_wp2_with fail
      refine wp_region_ext (fun i v' w' => match i with | 1 => v' = .bool false | 3 => v' = .bool false | 7 => v' = .bool b1 | 9 => v' = .bool b1 | 14 => v' = .bool b2 | 16 => v' = .bool b2 | _ => False) (by kernel_rfl) (by kernel_rfl) ?_
      refine wpE_op rfl rfl (fun w' hw' K' hK' => ?_)
      have hE := hw'.1
      obtain ⟨u0, u1⟩ := (HT1.out.ext ((Ext.drew w1).trans hE)).cells
      go_step
      refine hK' _ ⟨_, rfl⟩ ?_
      clear hK' K' u0 u1 hE hw' w'
      refine wpE_call 16 rfl (by simp) rfl (fun w' hw' K' hK' => ?_) ?_
      · have hE := hw'.1
        go_step
        refine (HNV.out w' ((HX1.out.trans (Ext.drew w1)).trans hE)).mono ?_
        rintro _ w2 ⟨rfl, hx5⟩
        exact hK' _ _ ⟨_, rfl, rfl⟩ hx5
      rintro _ w5 _ rfl
      simp only [Act.put, List.setIfInBounds_toArray, List.set_cons_succ, List.set_cons_zero]
      refine wpE_op rfl rfl (fun w' hw' K' hK' => ?_)
      have hE := hw'.1
      obtain ⟨u0, u1⟩ := (HT1.out.ext ((Ext.drew w1).trans hE)).cells
      go_step
      refine hK' _ ⟨_, rfl⟩ ?_
      clear hK' K' u0 u1 hE hw' w'
      refine wpE_call 18 rfl (by simp) rfl (fun w' hw' K' hK' => ?_) ?_
      · have hE := hw'.1
        go_step
        refine (HRV.out w' ((HX1.out.trans (Ext.drew w1)).trans hE)).mono ?_
        rintro _ w2 ⟨rfl, hx5⟩
        exact hK' _ _ ⟨_, rfl, rfl⟩ hx5
      rintro _ w5 _ rfl
      simp only [Act.put, List.setIfInBounds_toArray, List.set_cons_succ, List.set_cons_zero]
      refine wpE_op rfl rfl (fun w' hw' K' hK' => ?_)
      have hE := hw'.1
      go_step
      refine hK' _ ⟨_, rfl⟩ ?_
      clear hK' K' hE hw' w'
      refine wpE_op rfl rfl (fun w' hw' K' hK' => ?_)
      have hE := hw'.1
      go_step
      refine hK' _ ⟨_, rfl⟩ ?_
      clear hK' K' hE hw' w'
      refine wpE_op (by kernel_rfl) rfl (fun w' hw' K' hK' => ?_)
      have hE := hw'.1
      go_step
      refine hK' _ ⟨_, rfl⟩ ?_
      clear hK' K' hE hw' w'
      refine wpE_call 22 rfl (by simp) (by kernel_rfl) (fun w' hw' K' hK' => ?_) ?_
      · have hE := hw'.1
        go_step
        refine (HRA.out w').mono ?_
        rintro _ w2 ⟨rfl, hx5⟩
        exact hK' _ _ ⟨_, rfl, rfl⟩ hx5
      rintro _ w5 _ rfl
      simp only [Act.put, List.setIfInBounds_toArray, List.set_cons_succ, List.set_cons_zero]
      refine wpE_op (by kernel_rfl) rfl (fun w' hw' K' hK' => ?_)
      have hE := hw'.1
      go_step
      refine hK' _ ⟨_, rfl⟩ ?_
      clear hK' K' hE hw' w'
      refine wpE_call 24 rfl (by simp) (by kernel_rfl) (fun w' hw' K' hK' => ?_) ?_
      · have hE := hw'.1
        go_step
        refine (HRB.out w').mono ?_
        rintro _ w2 ⟨rfl, rfl⟩
        exact hK' _ _ ⟨_, rfl, rfl⟩ (Ext.refl _)
      rintro _ w5 _ rfl
      simp only [Act.put, List.setIfInBounds_toArray, List.set_cons_succ, List.set_cons_zero]
      refine wpE_op (by kernel_rfl) rfl (fun w' hw' K' hK' => ?_)
      have hE := hw'.1
      have hbb : (b1 != b1) = false := by cases b1 <;> rfl
      go_step
      refine hK' _ ⟨_, rfl⟩ ?_
      clear hK' K' hbb hE hw' w'
      refine wpE_op rfl rfl (fun w' hw' K' hK' => ?_)
      have hE := hw'.1
      go_step
      refine hK' _ ⟨_, rfl⟩ ?_
      clear hK' K' hE hw' w'
      refine wpE_op rfl rfl (fun w' hw' K' hK' => ?_)
      have hE := hw'.1
      go_step
      refine hK' _ ⟨_, rfl⟩ ?_
      clear hK' K' hE hw' w'
      refine wpE_op (by kernel_rfl) rfl (fun w' hw' K' hK' => ?_)
      have hE := hw'.1
      go_step
      refine hK' _ ⟨_, rfl⟩ ?_
      clear hK' K' hE hw' w'
      refine wpE_call 29 rfl (by simp) (by kernel_rfl) (fun w' hw' K' hK' => ?_) ?_
      · have hE := hw'.1
        go_step
        refine (HPA.out w').mono ?_
        rintro _ w2 ⟨rfl, rfl⟩
        exact hK' _ _ ⟨_, rfl, rfl⟩ (Ext.refl _)
      rintro _ w5 _ rfl
      simp only [Act.put, List.setIfInBounds_toArray, List.set_cons_succ, List.set_cons_zero]
      refine wpE_op (by kernel_rfl) rfl (fun w' hw' K' hK' => ?_)
      have hE := hw'.1
      go_step
      refine hK' _ ⟨_, rfl⟩ ?_
      clear hK' K' hE hw' w'
      refine wpE_call 31 rfl (by simp) (by kernel_rfl) (fun w' hw' K' hK' => ?_) ?_
      · have hE := hw'.1
        go_step
        refine (HPB.out w').mono ?_
        rintro _ w2 ⟨rfl, rfl⟩
        exact hK' _ _ ⟨_, rfl, rfl⟩ (Ext.refl _)
      rintro _ w5 _ rfl
      simp only [Act.put, List.setIfInBounds_toArray, List.set_cons_succ, List.set_cons_zero]
      refine wpE_op (by kernel_rfl) rfl (fun w' hw' K' hK' => ?_)
      have hE := hw'.1
      have hbb : (b2 != b2) = false := by cases b2 <;> rfl
      go_step
      refine hK' _ ⟨_, rfl⟩ ?_
      clear hK' K' hbb hE hw' w'
      refine wpE_op rfl rfl (fun w' hw' K' hK' => ?_)
      have hE := hw'.1
      go_step
      refine hK' _ ⟨_, rfl⟩ ?_
      clear hK' K' hE hw' w'
      refine wpE_nil (fun w2 hw2 => ?_)
      have HX2 := Lib.hid ((HX1.out.trans (Ext.drew w1)).trans hw2.1)
      clear hw2
      obtain ⟨q0, q1⟩ := (HT.out.ext HX2.out).cells
      go_wp2_with fail
      refine (HTX.out _ (HRS.out.ext HX2.out) HV.out).mono ?_
      rintro _ w3 ⟨rfl, hx3⟩
      have HX3 := Lib.hid (HX2.out.trans hx3); clear hx3 q0 q1
      obtain ⟨q0, q1⟩ := (HT.out.ext HX3.out).cells
      go_wp2_with fail
      refine (HRV.out _ HX3.out).mono ?_
      rintro _ w4 ⟨rfl, hx4⟩
      have HX4 := Lib.hid (HX3.out.trans hx4); clear hx4 q0 q1
      have HX5 := Lib.hid (HX.out.trans HX4.out)
      go_wp2_with fail
      refine (known_at _ (HM.out.ext (HX5.out))).mono ?_
      rintro _ wk ⟨rfl, hxk⟩
      go_wp2_with fail
      go_ret
      exact ⟨rfl, (HX5.out).trans hxk⟩
    | true =>
      have HTX := Lib.hid (NText_yes A c ps r)
      have HV := Lib.hid hv
      rw [hv] at HRV HNV
      have HRT := Lib.hid (RNText_at A c ps r (by omega) hps2 (by omega))
      clear hv
      go_enter Tryd.func3, Tryd.ntmps3
      go_wp2_with fail
      rw [← hwb]
      clear hwb
      refine HB.out.mono ?_
      rintro _ w1 ⟨rfl, hx1⟩
      have HX1 := Lib.hid hx1; clear hx1 q0 q1
      have HT1 := Lib.hid (HT.out.ext HX1.out)
      go_wp2_with fail
      refine wp_region_ext (fun i v' w' => match i with | 1 => v' = .bool true | 3 => v' = .bool true | 7 => v' = .bool b1 | 9 => v' = .bool b1 | 14 => v' = .bool b2 | 16 => v' = .bool b2 | _ => False) (by kernel_rfl) (by kernel_rfl) ?_
      refine wpE_op rfl rfl (fun w' hw' K' hK' => ?_)
      have hE := hw'.1
      obtain ⟨u0, u1⟩ := (HT1.out.ext ((Ext.drew w1).trans hE)).cells
      go_step
      refine hK' _ ⟨_, rfl⟩ ?_
      clear hK' K' u0 u1 hE hw' w'
      refine wpE_call 16 rfl (by simp) rfl (fun w' hw' K' hK' => ?_) ?_
      · have hE := hw'.1
        go_step
        refine (HNV.out w' ((HX1.out.trans (Ext.drew w1)).trans hE)).mono ?_
        rintro _ w2 ⟨rfl, hx5⟩
        exact hK' _ _ ⟨_, rfl, rfl⟩ hx5
      rintro _ w5 _ rfl
      simp only [Act.put, List.setIfInBounds_toArray, List.set_cons_succ, List.set_cons_zero]
      refine wpE_op rfl rfl (fun w' hw' K' hK' => ?_)
      have hE := hw'.1
      obtain ⟨u0, u1⟩ := (HT1.out.ext ((Ext.drew w1).trans hE)).cells
      go_step
      refine hK' _ ⟨_, rfl⟩ ?_
      clear hK' K' u0 u1 hE hw' w'
      refine wpE_call 18 rfl (by simp) rfl (fun w' hw' K' hK' => ?_) ?_
      · have hE := hw'.1
        go_step
        refine (HRV.out w' ((HX1.out.trans (Ext.drew w1)).trans hE)).mono ?_
        rintro _ w2 ⟨rfl, hx5⟩
        exact hK' _ _ ⟨_, rfl, rfl⟩ hx5
      rintro _ w5 _ rfl
      simp only [Act.put, List.setIfInBounds_toArray, List.set_cons_succ, List.set_cons_zero]
      refine wpE_op rfl rfl (fun w' hw' K' hK' => ?_)
      have hE := hw'.1
      go_step
      refine hK' _ ⟨_, rfl⟩ ?_
      clear hK' K' hE hw' w'
      refine wpE_op rfl rfl (fun w' hw' K' hK' => ?_)
      have hE := hw'.1
      go_step
      refine hK' _ ⟨_, rfl⟩ ?_
      clear hK' K' hE hw' w'
      refine wpE_op (by kernel_rfl) rfl (fun w' hw' K' hK' => ?_)
      have hE := hw'.1
      go_step
      refine hK' _ ⟨_, rfl⟩ ?_
      clear hK' K' hE hw' w'
      refine wpE_call 22 rfl (by simp) (by kernel_rfl) (fun w' hw' K' hK' => ?_) ?_
      · have hE := hw'.1
        go_step
        refine (HRA.out w').mono ?_
        rintro _ w2 ⟨rfl, hx5⟩
        exact hK' _ _ ⟨_, rfl, rfl⟩ hx5
      rintro _ w5 _ rfl
      simp only [Act.put, List.setIfInBounds_toArray, List.set_cons_succ, List.set_cons_zero]
      refine wpE_op (by kernel_rfl) rfl (fun w' hw' K' hK' => ?_)
      have hE := hw'.1
      go_step
      refine hK' _ ⟨_, rfl⟩ ?_
      clear hK' K' hE hw' w'
      refine wpE_call 24 rfl (by simp) (by kernel_rfl) (fun w' hw' K' hK' => ?_) ?_
      · have hE := hw'.1
        go_step
        refine (HRB.out w').mono ?_
        rintro _ w2 ⟨rfl, rfl⟩
        exact hK' _ _ ⟨_, rfl, rfl⟩ (Ext.refl _)
      rintro _ w5 _ rfl
      simp only [Act.put, List.setIfInBounds_toArray, List.set_cons_succ, List.set_cons_zero]
      refine wpE_op (by kernel_rfl) rfl (fun w' hw' K' hK' => ?_)
      have hE := hw'.1
      have hbb : (b1 != b1) = false := by cases b1 <;> rfl
      go_step
      refine hK' _ ⟨_, rfl⟩ ?_
      clear hK' K' hbb hE hw' w'
      refine wpE_op rfl rfl (fun w' hw' K' hK' => ?_)
      have hE := hw'.1
      go_step
      refine hK' _ ⟨_, rfl⟩ ?_
      clear hK' K' hE hw' w'
      refine wpE_op rfl rfl (fun w' hw' K' hK' => ?_)
      have hE := hw'.1
      go_step
      refine hK' _ ⟨_, rfl⟩ ?_
      clear hK' K' hE hw' w'
      refine wpE_op (by kernel_rfl) rfl (fun w' hw' K' hK' => ?_)
      have hE := hw'.1
      go_step
      refine hK' _ ⟨_, rfl⟩ ?_
      clear hK' K' hE hw' w'
      refine wpE_call 29 rfl (by simp) (by kernel_rfl) (fun w' hw' K' hK' => ?_) ?_
      · have hE := hw'.1
        go_step
        refine (HPA.out w').mono ?_
        rintro _ w2 ⟨rfl, rfl⟩
        exact hK' _ _ ⟨_, rfl, rfl⟩ (Ext.refl _)
      rintro _ w5 _ rfl
      simp only [Act.put, List.setIfInBounds_toArray, List.set_cons_succ, List.set_cons_zero]
      refine wpE_op (by kernel_rfl) rfl (fun w' hw' K' hK' => ?_)
      have hE := hw'.1
      go_step
      refine hK' _ ⟨_, rfl⟩ ?_
      clear hK' K' hE hw' w'
      refine wpE_call 31 rfl (by simp) (by kernel_rfl) (fun w' hw' K' hK' => ?_) ?_
      · have hE := hw'.1
        go_step
        refine (HPB.out w').mono ?_
        rintro _ w2 ⟨rfl, rfl⟩
        exact hK' _ _ ⟨_, rfl, rfl⟩ (Ext.refl _)
      rintro _ w5 _ rfl
      simp only [Act.put, List.setIfInBounds_toArray, List.set_cons_succ, List.set_cons_zero]
      refine wpE_op (by kernel_rfl) rfl (fun w' hw' K' hK' => ?_)
      have hE := hw'.1
      have hbb : (b2 != b2) = false := by cases b2 <;> rfl
      go_step
      refine hK' _ ⟨_, rfl⟩ ?_
      clear hK' K' hbb hE hw' w'
      refine wpE_op rfl rfl (fun w' hw' K' hK' => ?_)
      have hE := hw'.1
      go_step
      refine hK' _ ⟨_, rfl⟩ ?_
      clear hK' K' hE hw' w'
      refine wpE_nil (fun w2 hw2 => ?_)
      have HX2 := Lib.hid ((HX1.out.trans (Ext.drew w1)).trans hw2.1)
      clear hw2
      obtain ⟨q0, q1⟩ := (HT.out.ext HX2.out).cells
      go_wp2_with fail
      refine (HTX.out _ (HRS.out.ext HX2.out) HV.out).mono ?_
      rintro _ w3 ⟨rfl, hx3⟩
      have HX3 := Lib.hid (HX2.out.trans hx3); clear hx3 q0 q1
      obtain ⟨q0, q1⟩ := (HT.out.ext HX3.out).cells
      go_wp2_with fail
      refine (HRV.out _ HX3.out).mono ?_
      rintro _ w4 ⟨rfl, hx4⟩
      have HX4 := Lib.hid (HX3.out.trans hx4); clear hx4 q0 q1
      obtain ⟨q0, q1⟩ := (HT.out.ext HX4.out).cells
      go_wp2_with fail
      refine (HRT.out _ (HRS.out.ext HX4.out)).mono ?_
      rintro _ w5 ⟨rfl, hx5⟩
      have HX5 := Lib.hid (HX.out.trans (HX4.out.trans hx5)); clear hx5 q0 q1
      go_wp2_with fail
      refine (known_at _ (HM.out.ext (HX5.out))).mono ?_
      rintro _ wk ⟨rfl, hxk⟩
      go_wp2_with fail
      go_ret
      exact ⟨rfl, (HX5.out).trans hxk⟩
end Go.Proofs.YtgclchdccgkjaaaDoor.nameValid
