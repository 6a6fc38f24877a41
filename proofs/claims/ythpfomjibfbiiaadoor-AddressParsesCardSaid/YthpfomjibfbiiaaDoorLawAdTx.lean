/- AddressTexts: the law. (wip/tools/genadlaw.py printed this.) -/
import Derived.Test.YthpfomjibfbiiaaDoorLawAdNe
import Derived.Test.YthpfomjibfbiiaaDoorAdR5
namespace Go.Proofs.YthpfomjibfbiiaaDoor
open Go Go.RowKit
set_option linter.unusedVariables false

theorem RAText_at (k : Int) (b : List UInt8) (A : Option Addr) (c : Nat) (w : World) (hb : BS w (.slice A b.length c) b) (hok : okA k b = true) :
    Calls Tryd.prog 19 #[adv k A b.length c] w fun e w' => e = .returned (.string ⟨(txtA k b).toArray⟩) ∧ Ext w w' := by
  rcases okA_kinds hok with ⟨rfl, hl⟩ | ⟨rfl, hl⟩ | ⟨rfl, hl, _⟩
  · exact RAText4_at b A c w hb hl
  · exact RAText6_at b A c w hb hl
  · exact RATextH_at b A c w hb hl.2
set_option maxRecDepth 100000 in
set_option maxHeartbeats 4000000 in
theorem lawTx (k : Int) (a : List UInt8) (A : Option Addr) (c : Nat) (k' : Int) (b : List UInt8) (B : Option Addr) (d : Nat) (w : World) (ha : BS w (.slice A a.length c) a) (hb : BS w (.slice B b.length d) b) (hE : EnvA w) :
    Calls Tryd.prog 5 #[adv k A a.length c, adv k' B b.length d] w fun e w' => e = .returned (.bool true) ∧ Ext w w' := by
  have h0 := AB.new w k A a.length c
  have x0 := (Ext.refl w).alloc (.cells #[.int .i64 k, .slice A a.length c] 25)
  obtain ⟨W1, e1⟩ : ∃ W, w.alloc (.cells #[.int .i64 k, .slice A a.length c] 25) = W := ⟨_, rfl⟩
  rw [e1] at h0 x0
  have h1 := AB.new W1 k' B b.length d
  have x1 := (Ext.refl W1).alloc (.cells #[.int .i64 k', .slice B b.length d] 25)
  obtain ⟨W2, e2⟩ : ∃ W, W1.alloc (.cells #[.int .i64 k', .slice B b.length d] 25) = W := ⟨_, rfl⟩
  rw [e2] at h1 x1
  have z1 : W1.heap.size = w.heap.size + 1 := by rw [← e1]; simp
  have z2 : W2.heap.size = w.heap.size + 2 := by rw [← e2]; simp [z1]
  obtain ⟨W3, e3⟩ : ∃ W, W2.alloc (.cells #[.int .i64 k, .slice A a.length c, .int .i64 k', .slice B b.length d] 25) = W := ⟨_, rfl⟩
  have hw3 := ds_two W2 k k' a b A B c d (ha.ext (x0.trans x1)) (hb.ext (x0.trans x1)) W3 e3
  have HD := Lib.hid (small_at _ _ [(k, a), (k', b)] W3 hw3.1)
  rw [z2] at HD
  have X3 := (x0.trans x1).trans hw3.2
  have HX := Lib.hid X3
  have HBA := Lib.hid ((h0.ext x1).ext hw3.2); have HBB := Lib.hid (z1 ▸ h1.ext hw3.2)
  have HA := Lib.hid (ha.ext X3); have HB := Lib.hid (hb.ext X3); have HE := Lib.hid (hE.ext X3)
  obtain ⟨c0, c1⟩ := (h0.ext x1).cells
  obtain ⟨d0, d1⟩ := h1.cells
  rw [z1] at d0 d1
  obtain ⟨sm, hsm⟩ : ∃ v, smA [(k, a), (k', b)] = v := ⟨_, rfl⟩
  rw [hsm] at HD
  clear h0 h1 x0 x1 hw3 X3 ha hb hE hsm
  unfold adv
  go_enter Tryd.func5, Tryd.ntmps5
  go_wp2_with fail
  refine HD.out.mono ?_
  rintro _ w4 ⟨rfl, hx4⟩
  have HX4 := Lib.hid (HX.out.trans hx4)
  have HE4 := Lib.hid (HE.out.ext hx4); have HA4 := Lib.hid (HA.out.ext hx4); have HB4 := Lib.hid (HB.out.ext hx4)
  obtain ⟨p0, p1⟩ := (HBA.out.ext hx4).cells
  obtain ⟨r0, r1⟩ := (HBB.out.ext hx4).cells
  have HBA4 := Lib.hid (HBA.out.ext hx4); have HBB4 := Lib.hid (HBB.out.ext hx4)
  clear hx4 c0 c1 d0 d1 e1 e2 e3
  cases sm with
  | false =>
    go_wp2_with fail
    refine (AKnown_at _ HE4.out).mono ?_
    rintro _ w5 ⟨rfl, hx5⟩
    have HX5 := Lib.hid (HX4.out.trans hx5)
    clear hx5
    go_wp2_with fail
    go_ret
    exact ⟨rfl, HX5.out⟩
  | true =>
    have HV := Lib.hid (fun W hx => Valid_at' k a A c W (HA4.out.ext hx) (HE4.out.ext hx))
    have HRV := Lib.hid (fun W hx => RAValid_at k a A c W (HA4.out.ext hx))
    have HQ := Lib.hid (fun W hx => AEqual_at k k' a b A B c d W (HA4.out.ext hx) (HB4.out.ext hx))
    have HRQ := Lib.hid (fun W hx => RAEqual_at k k' a b A B c d W (HA4.out.ext hx) (HB4.out.ext hx))
    obtain ⟨q, hq⟩ : ∃ q, (k == k' && a == b) = q := ⟨_, rfl⟩
    have hqq : (q == q) = true := beq_self_eq_true _
    rw [hq] at HQ HRQ
    clear hq
    cases hva : okA k a with
    | false =>
      have HT := Lib.hid (fun W hx => AText_at k a A c W (HA4.out.ext hx) (HE4.out.ext hx) false hva)
      rw [hva] at HV HRV
      simp only [Bool.false_eq_true, if_false] at HT
      unfold adv at HV HRV HQ HRQ HT
      clear hva
      go_wp2_with fail
      refine (HT.out _ (Ext.refl _)).mono ?_
      rintro _ w5 ⟨rfl, hx5⟩
      have HX5 := Lib.hid hx5
      have HBA5 := Lib.hid (HBA4.out.ext hx5); have HBB5 := Lib.hid (HBB4.out.ext hx5)
      clear hx5 p0 p1 r0 r1
      go_wp2_with fail
      refine wp_region_ext (fun i v' w' => match i with | 1 => v' = .bool false | 3 => v' = .bool false | 8 => v' = .bool q | 11 => v' = .bool q | _ => False) (by kernel_rfl) (by kernel_rfl) ?_
      refine wpE_op rfl rfl (fun w' hw' K' hK' => ?_)
      have hE := hw'.1
      obtain ⟨u0, u1⟩ := (HBA5.out.ext ((Ext.drew _).trans hE)).cells
      go_step
      refine hK' _ ⟨_, rfl⟩ ?_
      clear hK' K' u0 u1 hE hw' w'
      refine wpE_call 19 rfl (by simp) rfl (fun w' hw' K' hK' => ?_) ?_
      · have hE := hw'.1
        go_step
        refine (HV.out _ (HX5.out.trans ((Ext.drew _).trans hE))).mono ?_
        rintro _ w2 ⟨rfl, hx⟩
        exact hK' _ _ ⟨_, rfl, rfl⟩ hx
      rintro _ w19x _ rfl
      simp only [Act.put, List.setIfInBounds_toArray, List.set_cons_succ, List.set_cons_zero]
      refine wpE_op rfl rfl (fun w' hw' K' hK' => ?_)
      have hE := hw'.1
      obtain ⟨u0, u1⟩ := (HBA5.out.ext ((Ext.drew _).trans hE)).cells
      go_step
      refine hK' _ ⟨_, rfl⟩ ?_
      clear hK' K' u0 u1 hE hw' w'
      refine wpE_call 21 rfl (by simp) rfl (fun w' hw' K' hK' => ?_) ?_
      · have hE := hw'.1
        go_step
        refine (HRV.out _ (HX5.out.trans ((Ext.drew _).trans hE))).mono ?_
        rintro _ w2 ⟨rfl, hx⟩
        exact hK' _ _ ⟨_, rfl, rfl⟩ hx
      rintro _ w21x _ rfl
      simp only [Act.put, List.setIfInBounds_toArray, List.set_cons_succ, List.set_cons_zero]
      refine wpE_op rfl rfl (fun w' hw' K' hK' => ?_)
      have hE := hw'.1
      go_step
      refine hK' _ ⟨_, rfl⟩ ?_
      clear hK' K' hE hw' w'
      refine wpE_op rfl rfl (fun w' hw' K' hK' => ?_)
      have hE := hw'.1
      go_step
      refine hK' _ ⟨_, rfl⟩ ?_
      clear hK' K' hE hw' w'
      refine wpE_op (by kernel_rfl) rfl (fun w' hw' K' hK' => ?_)
      have hE := hw'.1
      obtain ⟨u0, u1⟩ := (HBA5.out.ext ((Ext.drew _).trans hE)).cells
      go_step
      refine hK' _ ⟨_, rfl⟩ ?_
      clear hK' K' u0 u1 hE hw' w'
      refine wpE_op (by kernel_rfl) rfl (fun w' hw' K' hK' => ?_)
      have hE := hw'.1
      obtain ⟨u0, u1⟩ := (HBB5.out.ext ((Ext.drew _).trans hE)).cells
      go_step
      refine hK' _ ⟨_, rfl⟩ ?_
      clear hK' K' u0 u1 hE hw' w'
      refine wpE_call 26 rfl (by simp) (by kernel_rfl) (fun w' hw' K' hK' => ?_) ?_
      · have hE := hw'.1
        go_step
        refine (HQ.out _ (HX5.out.trans ((Ext.drew _).trans hE))).mono ?_
        rintro _ w2 ⟨rfl, hx⟩
        exact hK' _ _ ⟨_, rfl, rfl⟩ hx
      rintro _ w26x _ rfl
      simp only [Act.put, List.setIfInBounds_toArray, List.set_cons_succ, List.set_cons_zero]
      refine wpE_op (by kernel_rfl) rfl (fun w' hw' K' hK' => ?_)
      have hE := hw'.1
      obtain ⟨u0, u1⟩ := (HBA5.out.ext ((Ext.drew _).trans hE)).cells
      go_step
      refine hK' _ ⟨_, rfl⟩ ?_
      clear hK' K' u0 u1 hE hw' w'
      refine wpE_op (by kernel_rfl) rfl (fun w' hw' K' hK' => ?_)
      have hE := hw'.1
      obtain ⟨u0, u1⟩ := (HBB5.out.ext ((Ext.drew _).trans hE)).cells
      go_step
      refine hK' _ ⟨_, rfl⟩ ?_
      clear hK' K' u0 u1 hE hw' w'
      refine wpE_call 29 rfl (by simp) (by kernel_rfl) (fun w' hw' K' hK' => ?_) ?_
      · have hE := hw'.1
        go_step
        refine (HRQ.out _ (HX5.out.trans ((Ext.drew _).trans hE))).mono ?_
        rintro _ w2 ⟨rfl, hx⟩
        exact hK' _ _ ⟨_, rfl, rfl⟩ hx
      rintro _ w29x _ rfl
      simp only [Act.put, List.setIfInBounds_toArray, List.set_cons_succ, List.set_cons_zero]
      refine wpE_op (by kernel_rfl) rfl (fun w' hw' K' hK' => ?_)
      have hE := hw'.1
      go_step
      refine hK' _ ⟨_, rfl⟩ ?_
      clear hK' K' hE hw' w'
      refine wpE_op rfl rfl (fun w' hw' K' hK' => ?_)
      have hE := hw'.1
      go_step
      refine hK' _ ⟨_, rfl⟩ ?_
      clear hK' K' hE hw' w'
      refine wpE_nil (fun W hW => ?_)
      have HXW := Lib.hid ((HX5.out.trans (Ext.drew _)).trans hW.1)
      obtain ⟨t0, t1⟩ := (HBA4.out.ext HXW.out).cells
      clear hW
      go_wp2_with fail
      refine (HRV.out _ HXW.out).mono ?_
      rintro _ w7 ⟨rfl, hx7⟩
      have HX7 := Lib.hid (HXW.out.trans hx7)
      obtain ⟨s0, s1⟩ := (HBA4.out.ext HX7.out).cells
      clear t0 t1 hx7
      go_wp2_with fail
      refine (numA_at _ _).mono ?_
      rintro _ w9 ⟨rfl, rfl⟩
      go_wp2_with fail
      refine (AKnown_at _ (HE4.out.ext HX7.out)).mono ?_
      rintro _ w10 ⟨rfl, hx10⟩
      have HX10 := Lib.hid ((HX4.out.trans HX7.out).trans hx10)
      clear hx10
      go_wp2_with fail
      go_ret
      exact ⟨rfl, HX10.out⟩
    | true =>
      have HT := Lib.hid (fun W hx => AText_at k a A c W (HA4.out.ext hx) (HE4.out.ext hx) true hva)
      rw [hva] at HV HRV
      simp only [if_true] at HT
      have HRT := Lib.hid (fun W hx => RAText_at k a A c W (HA4.out.ext hx) hva)
      obtain ⟨T, hT⟩ : ∃ T, txtA k a = T := ⟨_, rfl⟩
      rw [hT] at HT HRT
      have hTT : (T == T) = true := beq_self_eq_true _
      unfold adv at HRT
      clear hT
      unfold adv at HV HRV HQ HRQ HT
      clear hva
      go_wp2_with fail
      refine (HT.out _ (Ext.refl _)).mono ?_
      rintro _ w5 ⟨rfl, hx5⟩
      have HX5 := Lib.hid hx5
      have HBA5 := Lib.hid (HBA4.out.ext hx5); have HBB5 := Lib.hid (HBB4.out.ext hx5)
      clear hx5 p0 p1 r0 r1
      go_wp2_with fail
      refine wp_region_ext (fun i v' w' => match i with | 1 => v' = .bool true | 3 => v' = .bool true | 8 => v' = .bool q | 11 => v' = .bool q | _ => False) (by kernel_rfl) (by kernel_rfl) ?_
      refine wpE_op rfl rfl (fun w' hw' K' hK' => ?_)
      have hE := hw'.1
      obtain ⟨u0, u1⟩ := (HBA5.out.ext ((Ext.drew _).trans hE)).cells
      go_step
      refine hK' _ ⟨_, rfl⟩ ?_
      clear hK' K' u0 u1 hE hw' w'
      refine wpE_call 19 rfl (by simp) rfl (fun w' hw' K' hK' => ?_) ?_
      · have hE := hw'.1
        go_step
        refine (HV.out _ (HX5.out.trans ((Ext.drew _).trans hE))).mono ?_
        rintro _ w2 ⟨rfl, hx⟩
        exact hK' _ _ ⟨_, rfl, rfl⟩ hx
      rintro _ w19x _ rfl
      simp only [Act.put, List.setIfInBounds_toArray, List.set_cons_succ, List.set_cons_zero]
      refine wpE_op rfl rfl (fun w' hw' K' hK' => ?_)
      have hE := hw'.1
      obtain ⟨u0, u1⟩ := (HBA5.out.ext ((Ext.drew _).trans hE)).cells
      go_step
      refine hK' _ ⟨_, rfl⟩ ?_
      clear hK' K' u0 u1 hE hw' w'
      refine wpE_call 21 rfl (by simp) rfl (fun w' hw' K' hK' => ?_) ?_
      · have hE := hw'.1
        go_step
        refine (HRV.out _ (HX5.out.trans ((Ext.drew _).trans hE))).mono ?_
        rintro _ w2 ⟨rfl, hx⟩
        exact hK' _ _ ⟨_, rfl, rfl⟩ hx
      rintro _ w21x _ rfl
      simp only [Act.put, List.setIfInBounds_toArray, List.set_cons_succ, List.set_cons_zero]
      refine wpE_op rfl rfl (fun w' hw' K' hK' => ?_)
      have hE := hw'.1
      go_step
      refine hK' _ ⟨_, rfl⟩ ?_
      clear hK' K' hE hw' w'
      refine wpE_op rfl rfl (fun w' hw' K' hK' => ?_)
      have hE := hw'.1
      go_step
      refine hK' _ ⟨_, rfl⟩ ?_
      clear hK' K' hE hw' w'
      refine wpE_op (by kernel_rfl) rfl (fun w' hw' K' hK' => ?_)
      have hE := hw'.1
      obtain ⟨u0, u1⟩ := (HBA5.out.ext ((Ext.drew _).trans hE)).cells
      go_step
      refine hK' _ ⟨_, rfl⟩ ?_
      clear hK' K' u0 u1 hE hw' w'
      refine wpE_op (by kernel_rfl) rfl (fun w' hw' K' hK' => ?_)
      have hE := hw'.1
      obtain ⟨u0, u1⟩ := (HBB5.out.ext ((Ext.drew _).trans hE)).cells
      go_step
      refine hK' _ ⟨_, rfl⟩ ?_
      clear hK' K' u0 u1 hE hw' w'
      refine wpE_call 26 rfl (by simp) (by kernel_rfl) (fun w' hw' K' hK' => ?_) ?_
      · have hE := hw'.1
        go_step
        refine (HQ.out _ (HX5.out.trans ((Ext.drew _).trans hE))).mono ?_
        rintro _ w2 ⟨rfl, hx⟩
        exact hK' _ _ ⟨_, rfl, rfl⟩ hx
      rintro _ w26x _ rfl
      simp only [Act.put, List.setIfInBounds_toArray, List.set_cons_succ, List.set_cons_zero]
      refine wpE_op (by kernel_rfl) rfl (fun w' hw' K' hK' => ?_)
      have hE := hw'.1
      obtain ⟨u0, u1⟩ := (HBA5.out.ext ((Ext.drew _).trans hE)).cells
      go_step
      refine hK' _ ⟨_, rfl⟩ ?_
      clear hK' K' u0 u1 hE hw' w'
      refine wpE_op (by kernel_rfl) rfl (fun w' hw' K' hK' => ?_)
      have hE := hw'.1
      obtain ⟨u0, u1⟩ := (HBB5.out.ext ((Ext.drew _).trans hE)).cells
      go_step
      refine hK' _ ⟨_, rfl⟩ ?_
      clear hK' K' u0 u1 hE hw' w'
      refine wpE_call 29 rfl (by simp) (by kernel_rfl) (fun w' hw' K' hK' => ?_) ?_
      · have hE := hw'.1
        go_step
        refine (HRQ.out _ (HX5.out.trans ((Ext.drew _).trans hE))).mono ?_
        rintro _ w2 ⟨rfl, hx⟩
        exact hK' _ _ ⟨_, rfl, rfl⟩ hx
      rintro _ w29x _ rfl
      simp only [Act.put, List.setIfInBounds_toArray, List.set_cons_succ, List.set_cons_zero]
      refine wpE_op (by kernel_rfl) rfl (fun w' hw' K' hK' => ?_)
      have hE := hw'.1
      go_step
      refine hK' _ ⟨_, rfl⟩ ?_
      clear hK' K' hE hw' w'
      refine wpE_op rfl rfl (fun w' hw' K' hK' => ?_)
      have hE := hw'.1
      go_step
      refine hK' _ ⟨_, rfl⟩ ?_
      clear hK' K' hE hw' w'
      refine wpE_nil (fun W hW => ?_)
      have HXW := Lib.hid ((HX5.out.trans (Ext.drew _)).trans hW.1)
      obtain ⟨t0, t1⟩ := (HBA4.out.ext HXW.out).cells
      clear hW
      go_wp2_with fail
      refine (HRV.out _ HXW.out).mono ?_
      rintro _ w7 ⟨rfl, hx7⟩
      have HX7 := Lib.hid (HXW.out.trans hx7)
      obtain ⟨s0, s1⟩ := (HBA4.out.ext HX7.out).cells
      clear t0 t1 hx7
      go_wp2_with fail
      refine (HRT.out _ HX7.out).mono ?_
      rintro _ w8 ⟨rfl, hx8⟩
      have HX8 := Lib.hid (HX7.out.trans hx8)
      clear hx8 s0 s1
      go_wp2_with fail
      refine (numA_at _ _).mono ?_
      rintro _ w9 ⟨rfl, rfl⟩
      go_wp2_with fail
      refine (AKnown_at _ (HE4.out.ext HX8.out)).mono ?_
      rintro _ w10 ⟨rfl, hx10⟩
      have HX10 := Lib.hid ((HX4.out.trans HX8.out).trans hx10)
      clear hx10
      go_wp2_with fail
      go_ret
      exact ⟨rfl, HX10.out⟩
end Go.Proofs.YthpfomjibfbiiaaDoor
