/- NameInverts: the law. (wip/tools/genlawin.py printed this.) -/
import Derived.Test.YtgclchdccgkjaaaDoorMg43
import Derived.Test.YtgclchdccgkjaaaDoorNm21
import Derived.IntWalk
import Derived.Deep.DeepCutAuto
namespace Go.Proofs.YtgclchdccgkjaaaDoor.nameInverts
open Go Go.RowKit
set_option linter.unusedVariables false

/-- The three comparisons. -/
theorem cmp3 (x y z : Int) (h : (x ≤ 0 → y ≤ 0 → z ≤ 0 ∧ (x + y < 0 → z = -1)) ∧ (x = 0 → y = z)) : ¬ ((x ≤ 0 ∧ y ≤ 0 ∧ 0 < z) ∨ (x ≤ 0 ∧ y ≤ 0 ∧ x + y < 0 ∧ z ≠ -1) ∨ (x = 0 ∧ y ≠ z)) := by omega

set_option maxRecDepth 100000 in
set_option maxHeartbeats 4000000 in
theorem law_walk (A : Option Addr) (c : Nat) (ps : List ByteArray) (r : ByteArray) (B : Option Addr) (d : Nat) (qs : List ByteArray) (t : ByteArray) (C : Option Addr) (f : Nat) (ms : List ByteArray) (v : ByteArray) (s : ByteArray) (E : Option Addr) (g : Nat) (b : List UInt8) (w : World)
    (hR : RS w (.slice A ps.length c) (sv ps)) (hQ : RS w (.slice B qs.length d) (sv qs)) (hS : RS w (.slice C ms.length f) (sv ms)) (hB : BS w (.slice E b.length g) b) (hm : MaxN w) :
    Calls Tryd.prog 9 #[.agg #[.slice A ps.length c, .string r], .agg #[.slice B qs.length d, .string t], .agg #[.slice C ms.length f, .string v], .string s, .slice E b.length g] w fun e w' => e = .returned (.bool true) ∧ Ext w w' := by
  have HM := Lib.hid hm; clear hm
  have hT := heap_alloc_new w (.cells #[.slice A ps.length c, .string r] 24)
  have x1 := (Ext.refl w).alloc (.cells #[.slice A ps.length c, .string r] 24)
  have hU := heap_alloc_new (w.alloc (.cells #[.slice A ps.length c, .string r] 24)) (.cells #[.slice B qs.length d, .string t] 24)
  have x2 := (Ext.refl (w.alloc (.cells #[.slice A ps.length c, .string r] 24))).alloc (.cells #[.slice B qs.length d, .string t] 24)
  have hV := heap_alloc_new ((w.alloc (.cells #[.slice A ps.length c, .string r] 24)).alloc (.cells #[.slice B qs.length d, .string t] 24)) (.cells #[.slice C ms.length f, .string v] 24)
  have x3 := (Ext.refl ((w.alloc (.cells #[.slice A ps.length c, .string r] 24)).alloc (.cells #[.slice B qs.length d, .string t] 24))).alloc (.cells #[.slice C ms.length f, .string v] 24)
  simp only [World.size_alloc] at hU hV
  have hT2 := x3.heap (x2.heap hT)
  have hU2 := x3.heap hU
  have hx := (x1.trans x2).trans x3
  obtain ⟨wb, hwb⟩ : ∃ wb, wb = ((w.alloc (.cells #[.slice A ps.length c, .string r] 24)).alloc (.cells #[.slice B qs.length d, .string t] 24)).alloc (.cells #[.slice C ms.length f, .string v] 24) := ⟨_, rfl⟩
  rw [← hwb] at hT2 hU2 hV hx
  have HT : Hid (PB wb w.heap.size (.slice A ps.length c) r) := Lib.hid hT2
  have HU : Hid (PB wb (w.heap.size + 1) (.slice B qs.length d) t) := Lib.hid hU2
  have HV : Hid (PB wb (w.heap.size + 1 + 1) (.slice C ms.length f) v) := Lib.hid hV
  have HX := Lib.hid hx
  have HRS := Lib.hid (hR.ext hx); have HQS := Lib.hid (hQ.ext hx); have HMS := Lib.hid (hS.ext hx); have HBS := Lib.hid (hB.ext hx)
  obtain ⟨q0, q1⟩ := HT.out.cells
  obtain ⟨q2, q3⟩ := HU.out.cells
  obtain ⟨q4, q5⟩ := HV.out.cells
  clear hT hU hV hT2 hU2 x1 x2 x3 hx hR hQ hS hB
  have hB1 := big_at A c ps r wb HRS.out
  have hB2 := fun W (hW : Ext wb W) => big_at B d qs t W (HQS.out.ext hW)
  have hB3 := fun W (hW : Ext wb W) => big_at C f ms v W (HMS.out.ext hW)
  obtain ⟨g1, hg1⟩ : ∃ g1, bigB ps r = g1 := ⟨_, rfl⟩
  obtain ⟨g2, hg2⟩ : ∃ g2, bigB qs t = g2 := ⟨_, rfl⟩
  obtain ⟨g3, hg3⟩ : ∃ g3, bigB ms v = g3 := ⟨_, rfl⟩
  rw [hg1] at hB1
  rw [hg2] at hB2
  rw [hg3] at hB3
  have HB1 := Lib.hid hB1; have HB2 := Lib.hid hB2; have HB3 := Lib.hid hB3
  have HG1 := Lib.hid hg1; have HG2 := Lib.hid hg2; have HG3 := Lib.hid hg3
  clear hB1 hB2 hB3 hg1 hg2 hg3
  go_enter Tryd.func9, Tryd.ntmps9
  go_wp2_with fail
  rw [← hwb]
  clear hwb
  refine HB1.out.mono ?_
  rintro _ w1 ⟨rfl, hx1⟩
  have HXA := Lib.hid hx1; clear hx1 q0 q1 q2 q3 q4 q5
  cases g1 with
  | true =>
    go_wp2_with fail
    refine (known_at _ (HM.out.ext (HX.out.trans HXA.out))).mono ?_
    rintro _ wk ⟨rfl, hxk⟩
    go_wp2_with fail
    go_ret
    exact ⟨rfl, (HX.out.trans HXA.out).trans hxk⟩
  | false =>
    obtain ⟨q2, q3⟩ := (HU.out.ext HXA.out).cells
    go_wp2_with fail
    refine (HB2.out _ HXA.out).mono ?_
    rintro _ w2 ⟨rfl, hx2⟩
    have HXB := Lib.hid (HXA.out.trans hx2); clear hx2 q2 q3
    cases g2 with
    | true =>
      go_wp2_with fail
      refine (known_at _ (HM.out.ext (HX.out.trans HXB.out))).mono ?_
      rintro _ wk ⟨rfl, hxk⟩
      go_wp2_with fail
      go_ret
      exact ⟨rfl, (HX.out.trans HXB.out).trans hxk⟩
    | false =>
      obtain ⟨q4, q5⟩ := (HV.out.ext HXB.out).cells
      go_wp2_with fail
      refine (HB3.out _ HXB.out).mono ?_
      rintro _ w3 ⟨rfl, hx3⟩
      have HXC := Lib.hid (HXB.out.trans hx3); clear hx3 q4 q5
      cases g3 with
      | true =>
        go_wp2_with fail
        refine (known_at _ (HM.out.ext (HX.out.trans HXC.out))).mono ?_
        rintro _ wk ⟨rfl, hxk⟩
        go_wp2_with fail
        go_ret
        exact ⟨rfl, (HX.out.trans HXC.out).trans hxk⟩
      | false =>
        by_cases hs : 200 < s.size
        · have hs1 : (200 : Int) < (s.size : Int) := by omega
          clear hs
          go_wp2_with fail
          refine (known_at _ (HM.out.ext (HX.out.trans HXC.out))).mono ?_
          rintro _ wk ⟨rfl, hxk⟩
          go_wp2_with fail
          go_ret
          exact ⟨rfl, (HX.out.trans HXC.out).trans hxk⟩
        · have hs1 : (s.size : Int) ≤ 200 := by omega
          by_cases hb : 200 < b.length
          · have hb1 : (200 : Int) < (b.length : Int) := by omega
            clear hb hs
            go_wp2_with fail
            refine (known_at _ (HM.out.ext (HX.out.trans HXC.out))).mono ?_
            rintro _ wk ⟨rfl, hxk⟩
            go_wp2_with fail
            go_ret
            exact ⟨rfl, (HX.out.trans HXC.out).trans hxk⟩
          · have hb1 : (b.length : Int) ≤ 200 := by omega
            have HSZ := Lib.hid hs; have HBZ := Lib.hid hb
            clear hs hb
            go_upto_region 3 with fail
            obtain ⟨hps, hn8, hr60⟩ := bigB_no HG1.out
            obtain ⟨hqs, hm8, ht60⟩ := bigB_no HG2.out
            obtain ⟨hms, ho8, hv60⟩ := bigB_no HG3.out
            obtain ⟨x, hx⟩ : ∃ x, cmpN (dat ps) r.data.toList (dat qs) t.data.toList = x := ⟨_, rfl⟩
            obtain ⟨y, hy⟩ : ∃ x, cmpN (dat qs) t.data.toList (dat ms) v.data.toList = x := ⟨_, rfl⟩
            obtain ⟨z, hz⟩ : ∃ x, cmpN (dat ps) r.data.toList (dat ms) v.data.toList = x := ⟨_, rfl⟩
            obtain ⟨x', hx'⟩ : ∃ x, cmpN (dat qs) t.data.toList (dat ps) r.data.toList = x := ⟨_, rfl⟩
            have hself : cmpN (dat ps) r.data.toList (dat ps) r.data.toList = 0 := (cmp_total (dat ps, r.data.toList) (dat qs, t.data.toList) (dat ms, v.data.toList)).2.1
            have hsw : x = - x' := by rw [← hx, ← hx']; exact (cmp_total (dat ps, r.data.toList) (dat qs, t.data.toList) (dat ms, v.data.toList)).1
            have htr : (x ≤ 0 → y ≤ 0 → z ≤ 0 ∧ (x + y < 0 → z = -1)) ∧ (x = 0 → y = z) := by rw [← hx, ← hy, ← hz]; exact (cmp_total (dat ps, r.data.toList) (dat qs, t.data.toList) (dat ms, v.data.toList)).2.2
            have hbx : -1 ≤ x ∧ x ≤ 1 := by rw [← hx]; exact cmpP_good.bd (dat ps, r.data.toList) (dat qs, t.data.toList)
            have hby : -1 ≤ y ∧ y ≤ 1 := by rw [← hy]; exact cmpP_good.bd (dat qs, t.data.toList) (dat ms, v.data.toList)
            have hbz : -1 ≤ z ∧ z ≤ 1 := by rw [← hz]; exact cmpP_good.bd (dat ps, r.data.toList) (dat ms, v.data.toList)
            have hC1 := NCompare_at A c ps r B d qs t (by omega) (by omega)
            have hC2 := NCompare_at B d qs t C f ms v (by omega) (by omega)
            have hC3 := NCompare_at A c ps r C f ms v (by omega) (by omega)
            have hC4 := NCompare_at B d qs t A c ps r (by omega) (by omega)
            have hC5 := NCompare_at A c ps r A c ps r (by omega) (by omega)
            rw [hx] at hC1
            rw [hy] at hC2
            rw [hz] at hC3
            rw [hx'] at hC4
            rw [hself] at hC5
            have HC1 := Lib.hid hC1; have HC2 := Lib.hid hC2; have HC3 := Lib.hid hC3; have HC4 := Lib.hid hC4; have HC5 := Lib.hid hC5
            have HSW := Lib.hid hsw; have HTR := Lib.hid htr; have HBX := Lib.hid hbx; have HBY := Lib.hid hby; have HBZ := Lib.hid hbz
            have HN8 := Lib.hid hn8; have HPS := Lib.hid hps; have HR60 := Lib.hid hr60
            clear hps hn8 hr60 hqs hm8 ht60 hms ho8 hv60 hx hy hz hx' hself hsw htr hbx hby hbz hC1 hC2 hC3 hC4 hC5
            have HT3 := Lib.hid (HT.out.ext HXC.out); have HU3 := Lib.hid (HU.out.ext HXC.out); have HV3 := Lib.hid (HV.out.ext HXC.out)
            refine wp_region_ext (fun i v' w' => match i with | 2 => v' = .int .i64 x | 5 => v' = .int .i64 y | 8 => v' = .int .i64 z | _ => False) (by kernel_rfl) (by kernel_rfl) ?_
            refine wpE_op rfl rfl (fun w' hw' K' hK' => ?_)
            have hE := hw'.1
            obtain ⟨u0, u1⟩ := (HT3.out.ext ((Ext.drew w3).trans hE)).cells
            go_step
            refine hK' _ ⟨_, rfl⟩ ?_
            clear hK' K' u0 u1 hE hw' w'
            refine wpE_op rfl rfl (fun w' hw' K' hK' => ?_)
            have hE := hw'.1
            obtain ⟨u0, u1⟩ := (HU3.out.ext ((Ext.drew w3).trans hE)).cells
            go_step
            refine hK' _ ⟨_, rfl⟩ ?_
            clear hK' K' u0 u1 hE hw' w'
            refine wpE_call 57 rfl (by simp) rfl (fun w' hw' K' hK' => ?_) ?_
            · have hE := hw'.1
              go_step
              refine (HC1.out w' (HRS.out.ext ((HXC.out.trans (Ext.drew w3)).trans hE)) (HQS.out.ext ((HXC.out.trans (Ext.drew w3)).trans hE))).mono ?_
              rintro _ w2 ⟨rfl, hx5⟩
              exact hK' _ _ ⟨_, rfl, rfl⟩ hx5
            rintro _ w5 _ rfl
            simp only [Act.put, List.setIfInBounds_toArray, List.set_cons_succ, List.set_cons_zero]
            refine wpE_op rfl rfl (fun w' hw' K' hK' => ?_)
            have hE := hw'.1
            obtain ⟨u0, u1⟩ := (HU3.out.ext ((Ext.drew w3).trans hE)).cells
            go_step
            refine hK' _ ⟨_, rfl⟩ ?_
            clear hK' K' u0 u1 hE hw' w'
            refine wpE_op rfl rfl (fun w' hw' K' hK' => ?_)
            have hE := hw'.1
            obtain ⟨u0, u1⟩ := (HV3.out.ext ((Ext.drew w3).trans hE)).cells
            go_step
            refine hK' _ ⟨_, rfl⟩ ?_
            clear hK' K' u0 u1 hE hw' w'
            refine wpE_call 60 rfl (by simp) rfl (fun w' hw' K' hK' => ?_) ?_
            · have hE := hw'.1
              go_step
              refine (HC2.out w' (HQS.out.ext ((HXC.out.trans (Ext.drew w3)).trans hE)) (HMS.out.ext ((HXC.out.trans (Ext.drew w3)).trans hE))).mono ?_
              rintro _ w2 ⟨rfl, hx5⟩
              exact hK' _ _ ⟨_, rfl, rfl⟩ hx5
            rintro _ w5 _ rfl
            simp only [Act.put, List.setIfInBounds_toArray, List.set_cons_succ, List.set_cons_zero]
            refine wpE_op rfl rfl (fun w' hw' K' hK' => ?_)
            have hE := hw'.1
            obtain ⟨u0, u1⟩ := (HT3.out.ext ((Ext.drew w3).trans hE)).cells
            go_step
            refine hK' _ ⟨_, rfl⟩ ?_
            clear hK' K' u0 u1 hE hw' w'
            refine wpE_op rfl rfl (fun w' hw' K' hK' => ?_)
            have hE := hw'.1
            obtain ⟨u0, u1⟩ := (HV3.out.ext ((Ext.drew w3).trans hE)).cells
            go_step
            refine hK' _ ⟨_, rfl⟩ ?_
            clear hK' K' u0 u1 hE hw' w'
            refine wpE_call 63 rfl (by simp) rfl (fun w' hw' K' hK' => ?_) ?_
            · have hE := hw'.1
              go_step
              refine (HC3.out w' (HRS.out.ext ((HXC.out.trans (Ext.drew w3)).trans hE)) (HMS.out.ext ((HXC.out.trans (Ext.drew w3)).trans hE))).mono ?_
              rintro _ w2 ⟨rfl, hx5⟩
              exact hK' _ _ ⟨_, rfl, rfl⟩ hx5
            rintro _ w5 _ rfl
            simp only [Act.put, List.setIfInBounds_toArray, List.set_cons_succ, List.set_cons_zero]
            refine wpE_op rfl rfl (fun w' hw' K' hK' => ?_)
            have hE := hw'.1
            go_step
            refine hK' _ ⟨_, rfl⟩ ?_
            clear hK' K' hE hw' w'
            refine wpE_op rfl rfl (fun w' hw' K' hK' => ?_)
            have hE := hw'.1
            go_step
            refine hK' _ ⟨_, rfl⟩ ?_
            clear hK' K' hE hw' w'
            refine wpE_op rfl rfl (fun w' hw' K' hK' => ?_)
            have hE := hw'.1
            go_step
            refine hK' _ ⟨_, rfl⟩ ?_
            clear hK' K' hE hw' w'
            refine wpE_nil (fun w4 hw4 => ?_)
            have HX4 := Lib.hid ((HXC.out.trans (Ext.drew w3)).trans hw4.1)
            clear hw4 HT3 HU3 HV3 HXA HXB HXC HB1 HB2 HB3 HG1 HG2 HG3 HV HC1 HC2 HC3
            obtain ⟨q0, q1⟩ := (HT.out.ext HX4.out).cells
            obtain ⟨q2, q3⟩ := (HU.out.ext HX4.out).cells
            go_upto_region 4 with fail
            go_cut [114] (fun v wx => v = .bool false ∧ Ext wb wx)
            case first =>
              obtain ⟨xl, xu⟩ := HBX.out
              obtain ⟨yl, yu⟩ := HBY.out
              obtain ⟨zl, zu⟩ := HBZ.out
              have htr := HTR.out
              have hsw := HSW.out
              have hx3 : x = -1 ∨ x = 0 ∨ x = 1 := by omega
              have hy3 : y = -1 ∨ y = 0 ∨ y = 1 := by omega
              have hz3 : z = -1 ∨ z = 0 ∨ z = 1 := by omega
              have hx4 : x' = -1 ∨ x' = 0 ∨ x' = 1 := by omega
              rcases hx3 with rfl | rfl | rfl <;> rcases hy3 with rfl | rfl | rfl <;> rcases hz3 with rfl | rfl | rfl <;> rcases hx4 with rfl | rfl | rfl <;> first | (exfalso; omega) | skip
              all_goals as_aux_lemma =>
                clear htr hsw xl xu yl yu zl zu
                go_wp2_with fail
                refine (HC4.out w4 (HQS.out.ext HX4.out) (HRS.out.ext HX4.out)).mono ?_
                rintro _ w5 ⟨rfl, hx5⟩
                have HX5 := Lib.hid (HX4.out.trans hx5); clear hx5 q0 q1 q2 q3
                obtain ⟨q0, q1⟩ := (HT.out.ext HX5.out).cells
                go_wp2_with fail
                refine (HC5.out w5 (HRS.out.ext HX5.out) (HRS.out.ext HX5.out)).mono ?_
                rintro _ w6 ⟨rfl, hx6⟩
                have HX6 := Lib.hid (HX5.out.trans hx6); clear hx6 q0 q1
                go_wp2_with fail
                go_meet
                case rel => exact ⟨rfl, HX6.out⟩
            case rest =>
              obtain ⟨rfl, hx7⟩ := hcut
              have HX7 := Lib.hid hx7
              clear hx7 HX4 HC4 HC5 HSW HTR HBX HBY HBZ HU q0 q1 q2 q3
              obtain ⟨q0, q1⟩ := (HT.out.ext HX7.out).cells
              have hps3 : ∀ p ∈ ps, p.size ≤ 4294967280 := fun p hp => Nat.le_trans (HPS.out p hp) (by omega)
              have HP3 := Lib.hid hps3; clear hps3
              go_wp2_with fail
              refine (NValid_at A c ps r HP3.out (by have := HR60.out; omega) _ (HRS.out.ext HX7.out)).mono ?_
              rintro _ w8 ⟨rfl, hx8⟩
              have HX8 := Lib.hid (HX7.out.trans hx8); clear hx8 q0 q1 HX7
              obtain ⟨q0, q1⟩ := (HT.out.ext HX8.out).cells
              go_upto_if 116 with fail
              go_cut [] (fun wx => Ext wb wx)
              case first =>
                cases hv : nameB (dat ps) r.data.toList with
                | false =>
                  go_wp2_with fail
                  go_meet
                  case rel => exact HX8.out
                | true =>
                  as_aux_lemma =>
                    have HNV := Lib.hid hv
                    have HLT := Lib.hid (text_len hv)
                    have HRB := Lib.hid (nameB_parts hv).2.2.2
                    have HL1 := Lib.hid (dat_len1000 hv)
                    obtain ⟨L, hL⟩ : ∃ L, encName (dat ps) r.data.toList = L := ⟨_, rfl⟩
                    have HLE := Lib.hid (show L.length ≤ 900 by rw [← hL, encName_E]; exact nameE_len hv)
                    have HL := Lib.hid (show L = nameE (dat ps) r.data.toList by rw [← hL, encName_E])
                    have hEn := fun W (h : RS W (.slice A ps.length c) (sv ps)) => NEncode_yes A c ps r W h hv
                    simp only [hL] at hEn
                    have HEN := Lib.hid hEn
                    clear hL hEn
                    obtain ⟨T, hT⟩ : ∃ T : ByteArray, (⟨(textN (dat ps) r.data.toList).toArray⟩ : ByteArray) = T := ⟨_, rfl⟩
                    have HTD : Hid (T.data.toList = textN (dat ps) r.data.toList) := Lib.hid (by rw [← hT])
                    have HTS : Hid (T.size ≤ 1000) := Lib.hid (by rw [← size_list, HTD.out]; exact HLT.out)
                    have hTx := fun W (h : RS W (.slice A ps.length c) (sv ps)) => NText_yes A c ps r W h hv
                    simp only [hT] at hTx
                    have HTX := Lib.hid hTx
                    have hss : (r.toList == r.toList) = true := beq_self_eq_true _
                    clear hT hTx hv HLT
                    go_wp2_with fail
                    refine (HTX.out _ (HRS.out.ext HX8.out)).mono ?_
                    rintro _ wa ⟨rfl, hxa⟩
                    have HXA := Lib.hid (HX8.out.trans hxa); clear hxa q0 q1 HTX HX8
                    obtain ⟨q0, q1⟩ := (HT.out.ext HXA.out).cells
                    go_wp2_with fail
                    refine (NParse_at T HTS.out _).mono ?_
                    rintro _ wp1 ⟨hp1, hxp⟩
                    rcases hp1 with ⟨A1, c1, ps1, r1, hv1, ht1, rfl, hr1⟩ | ⟨hno1, rfl⟩
                    rotate_left
                    · exact absurd HTD.out.symm (hno1 _ _ HNV.out)
                    have HD1 := Lib.hid (textN_inj (ne_of_name hv1) (ne_of_name HNV.out) (ht1.trans HTD.out))
                    have HL2 := Lib.hid (dat_len1000 hv1)
                    obtain ⟨V1, hV1, hxV1, hPB1⟩ := let_p wp1 (.slice A1 ps1.length c1) r1
                    have HXB := Lib.hid ((HXA.out.trans hxp).trans hxV1); have HR1 := Lib.hid (hr1.ext hxV1); have HP1 := Lib.hid hPB1
                    clear hxp hxV1 hr1 hPB1 hv1 ht1 q0 q1 HXA HTD HTS
                    obtain ⟨q0, q1⟩ := (HT.out.ext HXB.out).cells
                    go_wp2_with fail
                    clear hV1
                    refine (HEN.out _ (HRS.out.ext HXB.out)).mono ?_
                    rintro _ wc1 ⟨A2, c2, rfl, hob, hxc⟩
                    have HBE := Lib.hid hob.bs; have HXC2 := Lib.hid hxc
                    clear hob hxc q0 q1 HEN
                    go_wp2_with fail
                    refine (NDecode_at A2 c2 L HLE.out _ HBE.out).mono ?_
                    rintro _ wd1 ⟨hd, hxd⟩
                    rcases hd with ⟨ps2, r2, A3, c3, hv2, hb2, rfl, hr2⟩ | ⟨hno, er, hne, rfl⟩
                    rotate_left
                    · exact absurd HL.out.symm (hno _ _ HNV.out)
                    have HD2 := Lib.hid (nameE_inj hv2 HNV.out (hb2.symm.trans HL.out))
                    have HL3 := Lib.hid (dat_len1000 hv2)
                    obtain ⟨V2, hV2, hxV2, hPB2⟩ := let_p wd1 (.slice A3 ps2.length c3) r2
                    have HXD2 := Lib.hid ((HXC2.out.trans hxd).trans hxV2); have HR2 := Lib.hid (hr2.ext hxV2); have HP2 := Lib.hid hPB2
                    have HXD := Lib.hid (HXB.out.trans HXD2.out)
                    clear hxd hxV2 hr2 hPB2 hv2 hb2 HXC2 HBE HL HLE
                    obtain ⟨q0, q1⟩ := (HT.out.ext HXD.out).cells
                    obtain ⟨q2, q3⟩ := (HP1.out.ext HXD2.out).cells
                    obtain ⟨q4, q5⟩ := HP2.out.cells
                    go_wp2_with fail
                    clear hV2
                    refine (NEqual_yes A1 c1 ps1 r1 A c ps r HL2.out HL1.out HD1.out _ (HR1.out.ext HXD2.out) (HRS.out.ext HXD.out)).mono ?_
                    rintro _ we1 ⟨rfl, hxe⟩
                    have HXE2 := Lib.hid hxe
                    have HXE := Lib.hid (HXD.out.trans hxe)
                    clear hxe q0 q1 q2 q3 q4 q5
                    obtain ⟨q0, q1⟩ := (HT.out.ext HXE.out).cells
                    obtain ⟨q4, q5⟩ := (HP2.out.ext HXE2.out).cells
                    go_wp2_with fail
                    refine (NEqual_yes A3 c3 ps2 r2 A c ps r HL3.out HL1.out HD2.out _ (HR2.out.ext HXE2.out) (HRS.out.ext HXE.out)).mono ?_
                    rintro _ wf1 ⟨rfl, hxf⟩
                    have HXF := Lib.hid (HXE.out.trans hxf)
                    clear hxf q0 q1 q4 q5 HXE2 HXD2 HR1 HR2 HP1 HP2 HD1 HD2 HL2 HL3 HXD HXE HXB
                    obtain ⟨q0, q1⟩ := (HT.out.ext HXF.out).cells
                    go_wp2_with fail
                    refine (TG_yes r r HRB.out HRB.out _).mono ?_
                    rintro _ wg1 ⟨⟨A4, c4, rfl, hr4⟩, hxg⟩
                    obtain ⟨V4, hV4, hxV4, hPB4⟩ := let_p wg1 (.slice A4 2 c4) r
                    have HXG := Lib.hid ((HXF.out.trans hxg).trans hxV4); have HR4 := Lib.hid (hr4.ext hxV4); have HP4 := Lib.hid hPB4
                    clear hxg hxV4 hr4 hPB4 q0 q1
                    obtain ⟨q0, q1⟩ := (HT.out.ext HXG.out).cells
                    obtain ⟨q2, q3⟩ := HP4.out.cells
                    go_wp2_with fail
                    clear hV4
                    refine (Target_yes A4 c4 r HRB.out _ HR4.out).mono ?_
                    rintro _ wh1 ⟨rfl, hxh⟩
                    have HXH := Lib.hid (HXG.out.trans hxh)
                    clear hxh q0 q1 q2 q3
                    obtain ⟨q0, q1⟩ := (HT.out.ext HXH.out).cells
                    go_wp2_with fail
                    go_meet
                    case rel => exact HXH.out
              case rest =>
                have HX9 := Lib.hid hcut
                clear q0 q1 HX8
                as_aux_lemma =>
                  go_wp2_with fail
                  refine (NParse_at s (by have := HSZ.out; omega) _).mono ?_
                  rintro _ w10 ⟨hp1, hx10⟩
                  rcases hp1 with ⟨A1, c1, ps1, r1, hv1, ht1, rfl, hr1⟩ | ⟨hno1, rfl⟩
                  · obtain ⟨V1, hV1, hxV1, hPB1⟩ := let_p w10 (.slice A1 ps1.length c1) r1
                    have HX10 := Lib.hid ((HX9.out.trans hx10).trans hxV1); have HR1 := Lib.hid (hr1.ext hxV1)
                    have hTx := fun W (h : RS W (.slice A1 ps1.length c1) (sv ps1)) => NText_yes A1 c1 ps1 r1 W h hv1
                    simp only [ht1, ba_eta] at hTx
                    have HTX := Lib.hid hTx
                    obtain ⟨q0, q1⟩ := hPB1.cells
                    clear hx10 hxV1 hr1 hPB1 hv1 ht1 hTx
                    go_wp2_with fail
                    refine (HTX.out V1 HR1.out).mono ?_
                    rintro _ w11 ⟨rfl, hx11⟩
                    have HX11 := Lib.hid (HX10.out.trans hx11); clear hx11 q0 q1 hV1
                    have hss : (s.toList == s.toList) = true := beq_self_eq_true _
                    go_wp2_with fail
                    clear hss
                    have hBL : b.length ≤ 900 := by have := HBZ.out; omega
                    refine (NDecode_at E g b hBL _ (HBS.out.ext HX11.out)).mono ?_
                    rintro _ w12 ⟨hd, hx12⟩
                    rcases hd with ⟨ps2, r2, A3, c3, hv2, hb2, rfl, hr2⟩ | ⟨hno, er, hne, rfl⟩
                    · obtain ⟨V2, hV2, hxV2, hPB2⟩ := let_p w12 (.slice A3 ps2.length c3) r2
                      have HXM := Lib.hid ((HX11.out.trans hx12).trans hxV2); have HR2 := Lib.hid (hr2.ext hxV2)
                      have hEn := fun W (h : RS W (.slice A3 ps2.length c3) (sv ps2)) => NEncode_yes A3 c3 ps2 r2 W h hv2
                      simp only [encName_E, ← hb2] at hEn
                      have HEN := Lib.hid hEn
                      obtain ⟨q0, q1⟩ := hPB2.cells
                      clear hx12 hxV2 hr2 hPB2 hv2 hb2 hEn hBL
                      go_wp2_with fail
                      clear hV2
                      refine (HEN.out _ HR2.out).mono ?_
                      rintro _ w13 ⟨A5, c5, rfl, hob, hx13⟩
                      have HXN := Lib.hid (HXM.out.trans hx13)
                      have HB5 := Lib.hid hob.bs
                      have hcv1 := run_str (P := Tryd.prog) w13 38 9 5 _ _ Tryd.underlying38 Tryd.underlying5 Tryd.underlying9 HB5.out
                      have hcv2 := run_str (P := Tryd.prog) w13 38 9 5 _ _ Tryd.underlying38 Tryd.underlying5 Tryd.underlying9 (HBS.out.ext HXN.out)
                      have hbb : (b == b) = true := beq_self_eq_true _
                      clear hx13 hob q0 q1
                      go_wp2_with fail
                      refine (known_at _ (HM.out.ext (HX.out.trans (HXN.out)))).mono ?_
                      rintro _ wk ⟨rfl, hxk⟩
                      go_wp2_with fail
                      go_ret
                      exact ⟨rfl, (HX.out.trans (HXN.out)).trans hxk⟩
                    · have hne' : ((er : Int) == 0) = false := by rw [beq_eq_false_iff_ne]; omega
                      have HXM := Lib.hid ((HX11.out.trans hx12).trans ((Ext.refl w12).alloc (.cells #[.slice none 0 0, .string ⟨#[]⟩] 24)))
                      clear hx12 hno hBL
                      go_wp2_with fail
                      refine (known_at _ (HM.out.ext (HX.out.trans (HXM.out)))).mono ?_
                      rintro _ wk ⟨rfl, hxk⟩
                      go_wp2_with fail
                      go_ret
                      exact ⟨rfl, (HX.out.trans (HXM.out)).trans hxk⟩
                  · have HX11 := Lib.hid ((HX9.out.trans hx10).trans ((Ext.refl w10).alloc (.cells #[.slice none 0 0, .string ⟨#[]⟩] 24)))
                    clear hx10 hno1
                    go_wp2_with fail
                    have hBL : b.length ≤ 900 := by have := HBZ.out; omega
                    refine (NDecode_at E g b hBL _ (HBS.out.ext HX11.out)).mono ?_
                    rintro _ w12 ⟨hd, hx12⟩
                    rcases hd with ⟨ps2, r2, A3, c3, hv2, hb2, rfl, hr2⟩ | ⟨hno, er, hne, rfl⟩
                    · obtain ⟨V2, hV2, hxV2, hPB2⟩ := let_p w12 (.slice A3 ps2.length c3) r2
                      have HXM := Lib.hid ((HX11.out.trans hx12).trans hxV2); have HR2 := Lib.hid (hr2.ext hxV2)
                      have hEn := fun W (h : RS W (.slice A3 ps2.length c3) (sv ps2)) => NEncode_yes A3 c3 ps2 r2 W h hv2
                      simp only [encName_E, ← hb2] at hEn
                      have HEN := Lib.hid hEn
                      obtain ⟨q0, q1⟩ := hPB2.cells
                      clear hx12 hxV2 hr2 hPB2 hv2 hb2 hEn hBL
                      go_wp2_with fail
                      clear hV2
                      refine (HEN.out _ HR2.out).mono ?_
                      rintro _ w13 ⟨A5, c5, rfl, hob, hx13⟩
                      have HXN := Lib.hid (HXM.out.trans hx13)
                      have HB5 := Lib.hid hob.bs
                      have hcv1 := run_str (P := Tryd.prog) w13 38 9 5 _ _ Tryd.underlying38 Tryd.underlying5 Tryd.underlying9 HB5.out
                      have hcv2 := run_str (P := Tryd.prog) w13 38 9 5 _ _ Tryd.underlying38 Tryd.underlying5 Tryd.underlying9 (HBS.out.ext HXN.out)
                      have hbb : (b == b) = true := beq_self_eq_true _
                      clear hx13 hob q0 q1
                      go_wp2_with fail
                      refine (known_at _ (HM.out.ext (HX.out.trans (HXN.out)))).mono ?_
                      rintro _ wk ⟨rfl, hxk⟩
                      go_wp2_with fail
                      go_ret
                      exact ⟨rfl, (HX.out.trans (HXN.out)).trans hxk⟩
                    · have hne' : ((er : Int) == 0) = false := by rw [beq_eq_false_iff_ne]; omega
                      have HXM := Lib.hid ((HX11.out.trans hx12).trans ((Ext.refl w12).alloc (.cells #[.slice none 0 0, .string ⟨#[]⟩] 24)))
                      clear hx12 hno hBL
                      go_wp2_with fail
                      refine (known_at _ (HM.out.ext (HX.out.trans (HXM.out)))).mono ?_
                      rintro _ wk ⟨rfl, hxk⟩
                      go_wp2_with fail
                      go_ret
                      exact ⟨rfl, (HX.out.trans (HXM.out)).trans hxk⟩
end Go.Proofs.YtgclchdccgkjaaaDoor.nameInverts
