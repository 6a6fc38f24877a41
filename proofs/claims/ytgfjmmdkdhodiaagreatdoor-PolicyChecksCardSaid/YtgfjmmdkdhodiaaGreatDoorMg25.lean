/- Texts laid together (wip/tools/automerge.py): PoR3, LawPoVa. -/
import Derived.Test.YtgfjmmdkdhodiaaGreatDoorPoR3a
import Derived.Test.YtgfjmmdkdhodiaaGreatDoorPoR3b
import Derived.Test.YtgfjmmdkdhodiaaGreatDoorPoR3c
import Derived.Test.YtgfjmmdkdhodiaaGreatDoorPoL4
import Derived.Test.YtgfjmmdkdhodiaaGreatDoorRowP
namespace Go.Proofs.YtgfjmmdkdhodiaaGreatDoor
open Go Go.RowKit
set_option linter.unusedVariables false

theorem RPoValid_at (p : Pol) (hs : p.nm.size ≤ 4294967280) (w : World) :
    Calls Tryz.prog 11 #[p.v] w fun e w' => e = .returned (.bool p.ok) ∧ Ext w w' := by
  obtain ⟨b, hb⟩ : ∃ b, p.ok = b := ⟨_, rfl⟩
  rw [hb]
  unfold Pol.ok at hb
  cases h0 : nmB' p.nm.data.toList with
  | false => rw [h0] at hb; simp at hb; subst hb; exact RValid_c0 p hs h0 w
  | true =>
    cases h1 : inB p.len 1 64 with
    | false => rw [h0, h1] at hb; simp at hb; subst hb; exact RValid_c1 p hs h0 h1 w
    | true =>
      cases h2 : inB p.cla 1 5 with
      | false => rw [h0, h1, h2] at hb; simp at hb; subst hb; exact RValid_c2 p hs h0 h1 h2 w
      | true =>
        cases h3 : inB p.dis 0 p.len with
        | false => rw [h0, h1, h2, h3] at hb; simp at hb; subst hb; exact RValid_c3 p hs h0 h1 h2 h3 w
        | true =>
          cases h4 : inB p.his 0 16 with
          | false => rw [h0, h1, h2, h3, h4] at hb; simp at hb; subst hb; exact RValid_c4 p hs h0 h1 h2 h3 h4 w
          | true =>
            cases h5 : tmB p.mina with
            | false => rw [h0, h1, h2, h3, h4, h5] at hb; simp at hb; subst hb; exact RValid_c5 p hs h0 h1 h2 h3 h4 h5 w
            | true =>
              cases h6 : tmB p.maxa with
              | false => rw [h0, h1, h2, h3, h4, h5, h6] at hb; simp at hb; subst hb; exact RValid_c6 p hs h0 h1 h2 h3 h4 h5 h6 w
              | true =>
                by_cases h7 : p.maxa = 0
                · skip
                  cases h8 : inB p.fai 0 1000 with
                  | false => rw [h0, h1, h2, h3, h4, h5, h6, h8] at hb; simp [h7] at hb; subst hb; exact RValid_c8a p hs h0 h1 h2 h3 h4 h5 h6 h7 h8 w
                  | true =>
                    cases h9 : tmB p.win with
                    | false => rw [h0, h1, h2, h3, h4, h5, h6, h8, h9] at hb; simp [h7] at hb; subst hb; exact RValid_c9a p hs h0 h1 h2 h3 h4 h5 h6 h7 h8 h9 w
                    | true =>
                      cases h10 : tmB p.loc with
                      | false => rw [h0, h1, h2, h3, h4, h5, h6, h8, h9, h10] at hb; simp [h7] at hb; subst hb; exact RValid_c10a p hs h0 h1 h2 h3 h4 h5 h6 h7 h8 h9 h10 w
                      | true =>
                        rw [h0, h1, h2, h3, h4, h5, h6, h8, h9, h10] at hb; simp [h7] at hb; subst hb; exact RValid_c11a p hs h0 h1 h2 h3 h4 h5 h6 h7 h8 h9 h10 w
                · by_cases h7b : p.mina ≤ p.maxa
                  · skip
                    cases h8 : inB p.fai 0 1000 with
                    | false => rw [h0, h1, h2, h3, h4, h5, h6, h8] at hb; simp [h7, h7b] at hb; subst hb; exact RValid_c8b p hs h0 h1 h2 h3 h4 h5 h6 h7 h7b h8 w
                    | true =>
                      cases h9 : tmB p.win with
                      | false => rw [h0, h1, h2, h3, h4, h5, h6, h8, h9] at hb; simp [h7, h7b] at hb; subst hb; exact RValid_c9b p hs h0 h1 h2 h3 h4 h5 h6 h7 h7b h8 h9 w
                      | true =>
                        cases h10 : tmB p.loc with
                        | false => rw [h0, h1, h2, h3, h4, h5, h6, h8, h9, h10] at hb; simp [h7, h7b] at hb; subst hb; exact RValid_c10b p hs h0 h1 h2 h3 h4 h5 h6 h7 h7b h8 h9 h10 w
                        | true =>
                          rw [h0, h1, h2, h3, h4, h5, h6, h8, h9, h10] at hb; simp [h7, h7b] at hb; subst hb; exact RValid_c11b p hs h0 h1 h2 h3 h4 h5 h6 h7 h7b h8 h9 h10 w
                  · rw [h0, h1, h2, h3, h4, h5, h6] at hb; simp [h7, h7b] at hb; subst hb; exact RValid_c7 p hs h0 h1 h2 h3 h4 h5 h6 h7 h7b w
end Go.Proofs.YtgfjmmdkdhodiaaGreatDoor
namespace Go.Proofs.YtgfjmmdkdhodiaaGreatDoor.policyValid
open Go Go.RowKit
set_option linter.unusedVariables false
set_option maxRecDepth 100000 in
set_option maxHeartbeats 4000000 in
theorem law_walk (p : Pol) (c : UInt8) (w : World) (hm : Env w) :
    Calls Tryz.prog 3 #[p.v, .int .u8 (c.toNat : Int)] w fun e w' => e = .returned (.bool true) ∧ Ext w w' := by
  have HM := Lib.hid hm; clear hm
  have h0 := heap_alloc_new w (.cells p.cs 23)
  obtain ⟨W1, e1⟩ : ∃ W, w.alloc (.cells p.cs 23) = W := ⟨_, rfl⟩
  have x1 : Ext w W1 := e1 ▸ (Ext.refl w).alloc _
  have z1 : W1.heap.size = w.heap.size + 1 := by rw [← e1]; simp
  rw [e1] at h0
  have hp1 : PL W1 w.heap.size p := h0
  obtain ⟨k0, k1, k2, k3, k4, k5, k6, k7, k8, k9⟩ := hp1.cells
  have HP := Lib.hid hp1; have HX := Lib.hid x1; have HZ1 := Lib.hid z1
  by_cases h60 : 60 < p.nm.size
  · have h60' : (60 : Int) < (p.nm.size : Int) := by omega
    clear h0 hp1 x1 z1 h60
    go_enter Tryz.func3, Tryz.ntmps3
    unfold Pol.v
    unfold Pol.cs at e1
    go_wp2_with fail
    refine (PKnown_at _ (HM.out.ext (HX.out))).mono ?_
    rintro _ wk ⟨rfl, hxk⟩
    have HXk := Lib.hid ((HX.out).trans hxk)
    clear hxk 
    go_wp2_with fail
    go_ret
    exact ⟨rfl, HXk.out⟩
  have h60' : (p.nm.size : Int) ≤ 60 := by omega
  have hs4 : p.nm.size ≤ 4294967280 := by omega
  have HV := Lib.hid (fun W => PoValid_at p hs4 W)
  have HRV := Lib.hid (fun W => RPoValid_at p hs4 W)
  obtain ⟨b, hb⟩ : ∃ b, p.ok = b := ⟨_, rfl⟩
  rw [hb] at HV HRV
  have hbb : (b == b) = true := beq_self_eq_true _
  clear h0 hp1 x1 z1 h60 hb
  go_enter Tryz.func3, Tryz.ntmps3
  unfold Pol.v
  unfold Pol.cs at e1
  go_wp2_with fail
  clear k0 k1 k2 k3 k4 k5 k6 k7 k8 k9 e1
  refine wp_region_ext (fun i v' w' => match i with | 1 => v' = .bool b | 3 => v' = .bool b | 7 => v' = .int .i64 (cls c : Int) | 9 => v' = .int .i64 (cls c : Int) | 13 => v' = .bool true | _ => False) (by kernel_rfl) (by kernel_rfl) ?_
  refine wpE_op rfl rfl (fun w' hw' K' hK' => ?_)
  have hE := hw'.1
  obtain ⟨u0, u1, u2, u3, u4, u5, u6, u7, u8, u9⟩ := (HP.out.ext ((Ext.drew W1).trans hE)).cells
  go_step
  refine hK' _ ⟨_, rfl⟩ ?_
  clear hK' K' u0 u1 u2 u3 u4 u5 u6 u7 u8 u9 hE hw' w'
  refine wpE_call 11 rfl (by simp) rfl (fun w' hw' K' hK' => ?_) ?_
  · have hE := hw'.1
    go_step
    refine (HV.out w').mono ?_
    rintro _ w2 ⟨rfl, hx⟩
    exact hK' _ _ ⟨_, rfl, rfl⟩ hx
  rintro _ w6 _ rfl
  simp only [Act.put, List.setIfInBounds_toArray, List.set_cons_succ, List.set_cons_zero]
  refine wpE_op rfl rfl (fun w' hw' K' hK' => ?_)
  have hE := hw'.1
  obtain ⟨u0, u1, u2, u3, u4, u5, u6, u7, u8, u9⟩ := (HP.out.ext ((Ext.drew W1).trans hE)).cells
  go_step
  refine hK' _ ⟨_, rfl⟩ ?_
  clear hK' K' u0 u1 u2 u3 u4 u5 u6 u7 u8 u9 hE hw' w'
  refine wpE_call 13 rfl (by simp) rfl (fun w' hw' K' hK' => ?_) ?_
  · have hE := hw'.1
    go_step
    refine (HRV.out w').mono ?_
    rintro _ w2 ⟨rfl, hx⟩
    exact hK' _ _ ⟨_, rfl, rfl⟩ hx
  rintro _ w6 _ rfl
  simp only [Act.put, List.setIfInBounds_toArray, List.set_cons_succ, List.set_cons_zero]
  refine wpE_op rfl rfl (fun w' hw' K' hK' => ?_)
  have hE := hw'.1
  go_step
  refine hK' _ ⟨_, rfl⟩ ?_
  clear hK' K' hE hw' w'
  refine wpE_op rfl rfl (fun w' hw' K' hK' => ?_)
  have hE := hw'.1
  go_step
  refine hK' _ ⟨_, rfl⟩ ?_
  clear hK' K' hE hw' w'
  refine wpE_op (by kernel_rfl) rfl (fun w' hw' K' hK' => ?_)
  have hE := hw'.1
  go_step
  refine hK' _ ⟨_, rfl⟩ ?_
  clear hK' K' hE hw' w'
  refine wpE_call 17 rfl (by simp) (by kernel_rfl) (fun w' hw' K' hK' => ?_) ?_
  · have hE := hw'.1
    go_step
    refine (Class_at c w').mono ?_
    rintro _ w2 ⟨rfl, rfl⟩
    exact hK' _ _ ⟨_, rfl, rfl⟩ (Ext.refl _)
  rintro _ w6 _ rfl
  simp only [Act.put, List.setIfInBounds_toArray, List.set_cons_succ, List.set_cons_zero]
  refine wpE_op (by kernel_rfl) rfl (fun w' hw' K' hK' => ?_)
  have hE := hw'.1
  go_step
  refine hK' _ ⟨_, rfl⟩ ?_
  clear hK' K' hE hw' w'
  refine wpE_call 19 rfl (by simp) (by kernel_rfl) (fun w' hw' K' hK' => ?_) ?_
  · have hE := hw'.1
    go_step
    refine (RClass_at c w').mono ?_
    rintro _ w2 ⟨rfl, rfl⟩
    exact hK' _ _ ⟨_, rfl, rfl⟩ (Ext.refl _)
  rintro _ w6 _ rfl
  simp only [Act.put, List.setIfInBounds_toArray, List.set_cons_succ, List.set_cons_zero]
  refine wpE_op (by kernel_rfl) rfl (fun w' hw' K' hK' => ?_)
  have hE := hw'.1
  have hcc : ((cls c : Int) == (cls c : Int)) = true := beq_self_eq_true _
  go_step
  refine hK' _ ⟨_, rfl⟩ ?_
  clear hK' K' hcc hE hw' w'
  refine wpE_op rfl rfl (fun w' hw' K' hK' => ?_)
  have hE := hw'.1
  go_step
  refine hK' _ ⟨_, rfl⟩ ?_
  clear hK' K' hE hw' w'
  refine wpE_op rfl rfl (fun w' hw' K' hK' => ?_)
  have hE := hw'.1
  go_step
  refine hK' _ ⟨_, rfl⟩ ?_
  clear hK' K' hE hw' w'
  refine wpE_call 23 rfl (by simp) (by kernel_rfl) (fun w' hw' K' hK' => ?_) ?_
  · have hE := hw'.1
    go_step
    refine (PKnown_at w' (HM.out.ext ((HX.out.trans (Ext.drew _)).trans hE))).mono ?_
    rintro _ w2 ⟨rfl, hx⟩
    exact hK' _ _ ⟨_, rfl, rfl⟩ hx
  rintro _ w6 _ rfl
  simp only [Act.put, List.setIfInBounds_toArray, List.set_cons_succ, List.set_cons_zero]
  refine wpE_op rfl rfl (fun w' hw' K' hK' => ?_)
  have hE := hw'.1
  go_step
  refine hK' _ ⟨_, rfl⟩ ?_
  clear hK' K' hE hw' w'
  refine wpE_op rfl rfl (fun w' hw' K' hK' => ?_)
  have hE := hw'.1
  go_step
  refine hK' _ ⟨_, rfl⟩ ?_
  clear hK' K' hE hw' w'
  refine wpE_nil (fun w2 hw2 => ?_)
  have HX2 := Lib.hid ((HX.out.trans (Ext.drew _)).trans hw2.1)
  clear hw2
  go_wp2_with fail
  go_ret
  exact ⟨rfl, HX2.out⟩
theorem law_row (p : Pol) (a : Int) (w : World) (hs : p.nm.size ≤ maxLen) (h0 : 0 ≤ a) (h1 : a ≤ 255) (hm : Env w) :
    Calls Tryz.prog 3 #[p.v, .int .u8 a] w fun e w' => e = .returned (.bool true) ∧ Ext w w' := by
  obtain ⟨c, rfl⟩ := byte_of ⟨h0, h1⟩
  exact law_walk p c w hm
end Go.Proofs.YtgfjmmdkdhodiaaGreatDoor.policyValid
