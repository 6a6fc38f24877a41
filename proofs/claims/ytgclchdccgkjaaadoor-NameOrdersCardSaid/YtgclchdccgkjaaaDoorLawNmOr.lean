/- NameOrders: the law. (wip/tools/gennmlaw.py printed this.) -/
import Derived.Test.YtgclchdccgkjaaaDoorLawNmEn
import Derived.Test.YtgclchdccgkjaaaDoorNmOrd
import Derived.IntWalk
namespace Go.Proofs.YtgclchdccgkjaaaDoor.nameOrders
open Go Go.RowKit
set_option linter.unusedVariables false

set_option maxRecDepth 100000 in
set_option maxHeartbeats 4000000 in
theorem law_walk (A : Option Addr) (c : Nat) (ps : List ByteArray) (r : ByteArray) (B : Option Addr) (d : Nat) (qs : List ByteArray) (t : ByteArray) (w : World) (hR : RS w (.slice A ps.length c) (sv ps)) (hQ : RS w (.slice B qs.length d) (sv qs)) (hm : MaxN w) :
    Calls Tryd.prog 8 #[.agg #[.slice A ps.length c, .string r], .agg #[.slice B qs.length d, .string t]] w fun e w' => e = .returned (.bool true) ∧ Ext w w' := by
  have HM := Lib.hid hm; clear hm
  obtain ⟨i0, hi, hz0, hz1, hz2⟩ := info_parts sinfo'
  have hT := heap_alloc_new w (.cells #[.slice A ps.length c, .string r] 24)
  have hU := heap_alloc_new (w.alloc (.cells #[.slice A ps.length c, .string r] 24)) (.cells #[.slice B qs.length d, .string t] 24)
  rw [World.size_alloc] at hU
  have x1 := (Ext.refl w).alloc (.cells #[.slice A ps.length c, .string r] 24)
  have x2 := (Ext.refl (w.alloc (.cells #[.slice A ps.length c, .string r] 24))).alloc (.cells #[.slice B qs.length d, .string t] 24)
  have hT2 := x2.heap hT
  have hx := x1.trans x2
  obtain ⟨wb, hwb⟩ : ∃ wb, wb = (w.alloc (.cells #[.slice A ps.length c, .string r] 24)).alloc (.cells #[.slice B qs.length d, .string t] 24) := ⟨_, rfl⟩
  rw [← hwb] at hT2 hU hx
  have HT : Hid (PB wb w.heap.size (.slice A ps.length c) r) := Lib.hid hT2
  have HU : Hid (PB wb (w.heap.size + 1) (.slice B qs.length d) t) := Lib.hid hU
  have HX := Lib.hid hx
  have HRS := Lib.hid (hR.ext hx); have HQS := Lib.hid (hQ.ext hx)
  obtain ⟨q0, q1⟩ := HT.out.cells
  obtain ⟨q2, q3⟩ := HU.out.cells
  clear hT hU hT2 x1 x2 hx hR hQ
  have hB1 := big_at A c ps r wb HRS.out
  have hB2 := fun W (hW : Ext wb W) => big_at B d qs t W (HQS.out.ext hW)
  obtain ⟨g1, hg1⟩ : ∃ g1, bigB ps r = g1 := ⟨_, rfl⟩
  obtain ⟨g2, hg2⟩ : ∃ g2, bigB qs t = g2 := ⟨_, rfl⟩
  rw [hg1] at hB1
  rw [hg2] at hB2
  have HB1 := Lib.hid hB1; have HB2 := Lib.hid hB2
  clear hB1 hB2
  cases g1 with
  | true =>
    clear hg1 hg2
    go_enter Tryd.func8, Tryd.ntmps8
    go_wp2_with fail
    rw [← hwb]
    clear hwb
    refine HB1.out.mono ?_
    rintro _ w1 ⟨rfl, hx1⟩
    have HX1 := Lib.hid (HX.out.trans hx1); clear hx1
    go_wp2_with fail
    refine (known_at _ (HM.out.ext (HX1.out))).mono ?_
    rintro _ wk ⟨rfl, hxk⟩
    go_wp2_with fail
    go_ret
    exact ⟨rfl, (HX1.out).trans hxk⟩
  | false =>
    cases g2 with
    | true =>
      clear hg1 hg2
      go_enter Tryd.func8, Tryd.ntmps8
      go_wp2_with fail
      rw [← hwb]
      clear hwb
      refine HB1.out.mono ?_
      rintro _ w1 ⟨rfl, hx1⟩
      have HX1 := Lib.hid hx1; clear hx1 q0 q1 q2 q3
      obtain ⟨q2, q3⟩ := (HU.out.ext HX1.out).cells
      go_wp2_with fail
      refine (HB2.out _ HX1.out).mono ?_
      rintro _ w2 ⟨rfl, hx2⟩
      have HX2 := Lib.hid ((HX.out.trans HX1.out).trans hx2); clear hx2
      go_wp2_with fail
      refine (known_at _ (HM.out.ext (HX2.out))).mono ?_
      rintro _ wk ⟨rfl, hxk⟩
      go_wp2_with fail
      go_ret
      exact ⟨rfl, (HX2.out).trans hxk⟩
    | false =>
      obtain ⟨hps, hn8, hr60⟩ := bigB_no hg1
      obtain ⟨hqs, hm8, ht60⟩ := bigB_no hg2
      obtain ⟨x, hx⟩ : ∃ x, cmpN (dat ps) r.data.toList (dat qs) t.data.toList = x := ⟨_, rfl⟩
      obtain ⟨e, he⟩ : ∃ e, decide (dat ps = dat qs ∧ r.data.toList = t.data.toList) = e := ⟨_, rfl⟩
      have hxs : cmpN (dat qs) t.data.toList (dat ps) r.data.toList = -x := by rw [← hx]; exact cmpP_good.swap (dat ps, r.data.toList) (dat qs, t.data.toList)
      have hxb : -1 ≤ x ∧ x ≤ 1 := by rw [← hx]; exact cmpP_good.bd (dat ps, r.data.toList) (dat qs, t.data.toList)
      obtain ⟨xl, xu⟩ := hxb
      have hE1 := NEqual_at A c ps r B d qs t (by omega) (by omega)
      have hE2 := REqual_at A c ps r B d qs t (by omega) (by omega)
      have hC1 := NCompare_at A c ps r B d qs t (by omega) (by omega)
      have hC2 := RCompare_at A c ps r B d qs t (by omega) (by omega)
      have hC3 := NCompare_at B d qs t A c ps r (by omega) (by omega)
      rw [he] at hE1 hE2
      rw [hx] at hC1 hC2
      rw [hxs] at hC3
      have HE1 := Lib.hid hE1; have HE2 := Lib.hid hE2; have HC1 := Lib.hid hC1; have HC2 := Lib.hid hC2; have HC3 := Lib.hid hC3
      have HN8 := Lib.hid hn8
      clear hg1 hg2 hps hqs hr60 ht60 hx he hxs hE1 hE2 hC1 hC2 hC3 hm8 hn8
      go_enter Tryd.func8, Tryd.ntmps8
      go_wp2_with fail
      rw [← hwb]
      clear hwb
      refine HB1.out.mono ?_
      rintro _ w1 ⟨rfl, hx1⟩
      have HXA := Lib.hid hx1; clear hx1 q0 q1 q2 q3
      obtain ⟨q2, q3⟩ := (HU.out.ext HXA.out).cells
      go_wp2_with fail
      refine (HB2.out _ HXA.out).mono ?_
      rintro _ w2 ⟨rfl, hx2⟩
      have HX1 := Lib.hid (HXA.out.trans hx2); clear hx2 q2 q3
      have HT2 := Lib.hid (HT.out.ext HX1.out); have HU2 := Lib.hid (HU.out.ext HX1.out)
      go_wp2_with fail
      refine wp_region_ext (fun i v' w' => match i with | 2 => v' = .bool e | 5 => v' = .bool e | 10 => v' = .int .i64 x | 13 => v' = .int .i64 x | 19 => v' = .int .i64 (-x) | 22 => v' = .int .i64 x | _ => False) (by kernel_rfl) (by kernel_rfl) ?_
      refine wpE_op rfl rfl (fun w' hw' K' hK' => ?_)
      have hE := hw'.1
      obtain ⟨u0, u1⟩ := (HT2.out.ext ((Ext.drew w2).trans hE)).cells
      go_step
      refine hK' _ ⟨_, rfl⟩ ?_
      clear hK' K' u0 u1 hE hw' w'
      refine wpE_op rfl rfl (fun w' hw' K' hK' => ?_)
      have hE := hw'.1
      obtain ⟨u0, u1⟩ := (HU2.out.ext ((Ext.drew w2).trans hE)).cells
      go_step
      refine hK' _ ⟨_, rfl⟩ ?_
      clear hK' K' u0 u1 hE hw' w'
      refine wpE_call 17 rfl (by simp) rfl (fun w' hw' K' hK' => ?_) ?_
      · have hE := hw'.1
        go_step
        refine (HE1.out w' (HRS.out.ext ((HX1.out.trans (Ext.drew w2)).trans hE)) (HQS.out.ext ((HX1.out.trans (Ext.drew w2)).trans hE))).mono ?_
        rintro _ w2 ⟨rfl, hx5⟩
        exact hK' _ _ ⟨_, rfl, rfl⟩ hx5
      rintro _ w5 _ rfl
      simp only [Act.put, List.setIfInBounds_toArray, List.set_cons_succ, List.set_cons_zero]
      refine wpE_op rfl rfl (fun w' hw' K' hK' => ?_)
      have hE := hw'.1
      obtain ⟨u0, u1⟩ := (HT2.out.ext ((Ext.drew w2).trans hE)).cells
      go_step
      refine hK' _ ⟨_, rfl⟩ ?_
      clear hK' K' u0 u1 hE hw' w'
      refine wpE_op rfl rfl (fun w' hw' K' hK' => ?_)
      have hE := hw'.1
      obtain ⟨u0, u1⟩ := (HU2.out.ext ((Ext.drew w2).trans hE)).cells
      go_step
      refine hK' _ ⟨_, rfl⟩ ?_
      clear hK' K' u0 u1 hE hw' w'
      refine wpE_call 20 rfl (by simp) rfl (fun w' hw' K' hK' => ?_) ?_
      · have hE := hw'.1
        go_step
        refine (HE2.out w' (HRS.out.ext ((HX1.out.trans (Ext.drew w2)).trans hE)) (HQS.out.ext ((HX1.out.trans (Ext.drew w2)).trans hE))).mono ?_
        rintro _ w2 ⟨rfl, hx5⟩
        exact hK' _ _ ⟨_, rfl, rfl⟩ hx5
      rintro _ w5 _ rfl
      simp only [Act.put, List.setIfInBounds_toArray, List.set_cons_succ, List.set_cons_zero]
      refine wpE_op rfl rfl (fun w' hw' K' hK' => ?_)
      have hE := hw'.1
      have hbb : (e != e) = false := by cases e <;> rfl
      go_step
      refine hK' _ ⟨_, rfl⟩ ?_
      clear hK' K' hbb hE hw' w'
      refine wpE_op rfl rfl (fun w' hw' K' hK' => ?_)
      have hE := hw'.1
      go_step
      refine hK' _ ⟨_, rfl⟩ ?_
      clear hK' K' hE hw' w'
      refine wpE_op (by kernel_rfl) rfl (fun w' hw' K' hK' => ?_)
      have hE := hw'.1
      obtain ⟨u0, u1⟩ := (HT2.out.ext ((Ext.drew w2).trans hE)).cells
      go_step
      refine hK' _ ⟨_, rfl⟩ ?_
      clear hK' K' u0 u1 hE hw' w'
      refine wpE_op (by kernel_rfl) rfl (fun w' hw' K' hK' => ?_)
      have hE := hw'.1
      obtain ⟨u0, u1⟩ := (HU2.out.ext ((Ext.drew w2).trans hE)).cells
      go_step
      refine hK' _ ⟨_, rfl⟩ ?_
      clear hK' K' u0 u1 hE hw' w'
      refine wpE_call 25 rfl (by simp) (by kernel_rfl) (fun w' hw' K' hK' => ?_) ?_
      · have hE := hw'.1
        go_step
        refine (HC1.out w' (HRS.out.ext ((HX1.out.trans (Ext.drew w2)).trans hE)) (HQS.out.ext ((HX1.out.trans (Ext.drew w2)).trans hE))).mono ?_
        rintro _ w2 ⟨rfl, hx5⟩
        exact hK' _ _ ⟨_, rfl, rfl⟩ hx5
      rintro _ w5 _ rfl
      simp only [Act.put, List.setIfInBounds_toArray, List.set_cons_succ, List.set_cons_zero]
      refine wpE_op (by kernel_rfl) rfl (fun w' hw' K' hK' => ?_)
      have hE := hw'.1
      obtain ⟨u0, u1⟩ := (HT2.out.ext ((Ext.drew w2).trans hE)).cells
      go_step
      refine hK' _ ⟨_, rfl⟩ ?_
      clear hK' K' u0 u1 hE hw' w'
      refine wpE_op (by kernel_rfl) rfl (fun w' hw' K' hK' => ?_)
      have hE := hw'.1
      obtain ⟨u0, u1⟩ := (HU2.out.ext ((Ext.drew w2).trans hE)).cells
      go_step
      refine hK' _ ⟨_, rfl⟩ ?_
      clear hK' K' u0 u1 hE hw' w'
      refine wpE_call 28 rfl (by simp) (by kernel_rfl) (fun w' hw' K' hK' => ?_) ?_
      · have hE := hw'.1
        go_step
        refine (HC2.out w' (HRS.out.ext ((HX1.out.trans (Ext.drew w2)).trans hE)) (HQS.out.ext ((HX1.out.trans (Ext.drew w2)).trans hE))).mono ?_
        rintro _ w2 ⟨rfl, hx5⟩
        exact hK' _ _ ⟨_, rfl, rfl⟩ hx5
      rintro _ w5 _ rfl
      simp only [Act.put, List.setIfInBounds_toArray, List.set_cons_succ, List.set_cons_zero]
      refine wpE_op (by kernel_rfl) rfl (fun w' hw' K' hK' => ?_)
      have hE := hw'.1
      have hbb : (x != x) = false := by simp
      go_step
      refine hK' _ ⟨_, rfl⟩ ?_
      clear hK' K' hbb hE hw' w'
      refine wpE_op rfl rfl (fun w' hw' K' hK' => ?_)
      have hE := hw'.1
      go_step
      refine hK' _ ⟨_, rfl⟩ ?_
      clear hK' K' hE hw' w'
      refine wpE_op rfl rfl (fun w' hw' K' hK' => ?_)
      have hE := hw'.1
      go_step
      refine hK' _ ⟨_, rfl⟩ ?_
      clear hK' K' hE hw' w'
      refine wpE_op (by kernel_rfl) rfl (fun w' hw' K' hK' => ?_)
      have hE := hw'.1
      obtain ⟨u0, u1⟩ := (HU2.out.ext ((Ext.drew w2).trans hE)).cells
      go_step
      refine hK' _ ⟨_, rfl⟩ ?_
      clear hK' K' u0 u1 hE hw' w'
      refine wpE_op (by kernel_rfl) rfl (fun w' hw' K' hK' => ?_)
      have hE := hw'.1
      obtain ⟨u0, u1⟩ := (HT2.out.ext ((Ext.drew w2).trans hE)).cells
      go_step
      refine hK' _ ⟨_, rfl⟩ ?_
      clear hK' K' u0 u1 hE hw' w'
      refine wpE_call 34 rfl (by simp) (by kernel_rfl) (fun w' hw' K' hK' => ?_) ?_
      · have hE := hw'.1
        go_step
        refine (HC3.out w' (HQS.out.ext ((HX1.out.trans (Ext.drew w2)).trans hE)) (HRS.out.ext ((HX1.out.trans (Ext.drew w2)).trans hE))).mono ?_
        rintro _ w2 ⟨rfl, hx5⟩
        exact hK' _ _ ⟨_, rfl, rfl⟩ hx5
      rintro _ w5 _ rfl
      simp only [Act.put, List.setIfInBounds_toArray, List.set_cons_succ, List.set_cons_zero]
      refine wpE_op (by kernel_rfl) rfl (fun w' hw' K' hK' => ?_)
      have hE := hw'.1
      obtain ⟨u0, u1⟩ := (HT2.out.ext ((Ext.drew w2).trans hE)).cells
      go_step
      refine hK' _ ⟨_, rfl⟩ ?_
      clear hK' K' u0 u1 hE hw' w'
      refine wpE_op (by kernel_rfl) rfl (fun w' hw' K' hK' => ?_)
      have hE := hw'.1
      obtain ⟨u0, u1⟩ := (HU2.out.ext ((Ext.drew w2).trans hE)).cells
      go_step
      refine hK' _ ⟨_, rfl⟩ ?_
      clear hK' K' u0 u1 hE hw' w'
      refine wpE_call 37 rfl (by simp) (by kernel_rfl) (fun w' hw' K' hK' => ?_) ?_
      · have hE := hw'.1
        go_step
        refine (HC2.out w' (HRS.out.ext ((HX1.out.trans (Ext.drew w2)).trans hE)) (HQS.out.ext ((HX1.out.trans (Ext.drew w2)).trans hE))).mono ?_
        rintro _ w2 ⟨rfl, hx5⟩
        exact hK' _ _ ⟨_, rfl, rfl⟩ hx5
      rintro _ w5 _ rfl
      simp only [Act.put, List.setIfInBounds_toArray, List.set_cons_succ, List.set_cons_zero]
      refine wpE_op (by kernel_rfl) rfl (fun w' hw' K' hK' => ?_)
      have hE := hw'.1
      have hng : IntKind.i64.wrap (-x) = -x := IntWalk.i64_in _ (by omega)
      go_step
      refine hK' _ ⟨_, rfl⟩ ?_
      clear hK' K' hng hE hw' w'
      refine wpE_op (by kernel_rfl) rfl (fun w' hw' K' hK' => ?_)
      have hE := hw'.1
      have hbb : (-x != -x) = false := by simp
      go_step
      refine hK' _ ⟨_, rfl⟩ ?_
      clear hK' K' hbb hE hw' w'
      refine wpE_op rfl rfl (fun w' hw' K' hK' => ?_)
      have hE := hw'.1
      go_step
      refine hK' _ ⟨_, rfl⟩ ?_
      clear hK' K' hE hw' w'
      refine wpE_nil (fun w3 hw3 => ?_)
      have HX3 := Lib.hid ((HX1.out.trans (Ext.drew w2)).trans hw3.1)
      clear hw3 HT2 HU2
      have HT3 := Lib.hid (HT.out.ext HX3.out)
      have HRS3 := Lib.hid (HRS.out.ext HX3.out)
      have HW3 := Lib.hid (HX.out.trans HX3.out)
      clear HX1 HXA HE1 HE2 HC1 HC2 HC3 xl xu HB1 HB2
      have HO := Lib.hid (own_none w3 9)
      have HS1 := Lib.hid (show ∀ u ∈ sv ps, u.oneCell' = true from fun u hu => by
        simp only [sv, List.mem_map] at hu
        obtain ⟨b, _, rfl⟩ := hu
        rfl)
      obtain ⟨q0, q1⟩ := (HT3.out.ext ((Ext.refl w3).alloc (.cells #[] 9))).cells
      go_wp2_with (at_builtin; refine wpList_append_rs _ rfl (.tmp 41) (.tmp 43) 22 rfl w3.heap.size 9 i0 (.string ⟨#[]⟩) 16 Tryd.underlying22 hi hz0 hz1 hz2 rfl _ [] rfl HO.out _ (sv ps) rfl (HRS3.out.ext ((Ext.refl w3).alloc _)) HS1.out ?hb (by omega) ?hm ?_; rotate_right; intro v4 w4 hown4 hg4 _; rw [List.nil_append] at hown4; obtain ⟨A4, c4, rfl⟩ := rs_shape8 (RS.of_own hown4); have hx4 := ((Ext.refl w3).alloc (.cells #[] 9)).grown hg4 (fun j hj => (World.ownsRow.lt HO.out j hj).1); have HR4 := Lib.hid (RS.of_own hown4); have HX4 := Lib.hid hx4; clear hown4 hg4 hx4 q0 q1; obtain ⟨q0, q1⟩ := (HT3.out.ext HX4.out).cells)
      case hb => have := HN8.out; rw [sv_length]; simp; omega
      case hm => simp
      refine (NCopy_at A c ps r (by have := HN8.out; omega) w4 (HRS3.out.ext HX4.out)).mono ?_
      rintro _ w5 ⟨A5, c5, rfl, hw5, hx5⟩
      obtain ⟨V, hV, hxV, hPV⟩ := let_p w5 (.slice A5 ps.length c5) r
      have hx5V := hx5.trans hxV
      have HO5 := Lib.hid (ownsRow_ext8 hw5 hxV)
      have HPV := Lib.hid hPV
      have HX5 := Lib.hid (HX4.out.trans hx5V)
      have HX45 := Lib.hid hx5V
      have HLT := Lib.hid (show ∀ k, (Value.slice A5 ps.length c5).ownBlock = some k → w4.heap.size ≤ k ∧ k < w5.heap.size from fun k hk => by have := World.ownsRow.lt hw5 k hk; omega)
      clear hw5 hxV hPV hx5V hx5 q0 q1
      obtain ⟨q0, q1⟩ := (HT3.out.ext HX5.out).cells
      obtain ⟨q2, q3⟩ := HPV.out.cells
      have hEQ := REqual_at A c ps r A5 c5 ps r (by have := HN8.out; omega) (by have := HN8.out; omega) V (HRS3.out.ext HX5.out) (RS.of_own HO5.out)
      rw [show decide (dat ps = dat ps ∧ r.data.toList = r.data.toList) = true from decide_eq_true ⟨rfl, rfl⟩] at hEQ
      have HEQ := Lib.hid hEQ
      clear hEQ
      go_wp2_with fail
      refine HEQ.out.mono ?_
      rintro _ w6 ⟨rfl, hx6⟩
      have HO6 := Lib.hid (ownsRow_ext8 HO5.out hx6); have HP6 := Lib.hid (HPV.out.ext hx6); have HX46 := Lib.hid (HX45.out.trans hx6)
      clear hx6 q0 q1 q2 q3 hV
      have hl6 : (sv ps).length = ps.length := sv_length ps
      have HL6 := Lib.hid hl6; clear hl6
      go_wp2_with fail
      go_loopw [7] (fun i wr => ∃ (k : Nat) (Y : List Value), k ≤ ps.length ∧ i = .int .i64 k ∧ Hid (Y.length = ps.length) ∧ Hid (wr.ownsRow (w4.heap.size + 2) 9 1 (.slice A5 ps.length c5) ps.length Y) ∧ Hid (w6.grownBy wr (Value.slice A5 ps.length c5).ownBlock)) (fun i _ => ps.length - (intOf i).toNat)
      case atStart => exact ⟨0, sv ps, Nat.zero_le _, rfl, HL6, Lib.hid (by have := HO6.out; rwa [HL6.out] at this), Lib.hid (World.grownBy.refl _ _)⟩
      case round =>
        obtain ⟨k, Y, hk, rfl, HY, HO7, HG7⟩ := hrel
        have HP7 := Lib.hid (show PB wr w5.heap.size (.slice A5 ps.length c5) r from (HG7.out.block _ (Array.getElem?_eq_some_iff.1 HP6.out).1 (fun e => by have := HLT.out _ e.symm; omega)).trans HP6.out)
        obtain ⟨q2, q3⟩ := HP7.out.cells
        by_cases hlt : k < ps.length
        · obtain ⟨g, hgA⟩ : ∃ g, A5 = some ⟨g, 0, none⟩ := by
            rcases HO7.out.2 with ⟨_, h0⟩ | ⟨g, cap, cur, hv, _⟩
            · omega
            · injection hv with h1; exact ⟨g, h1⟩
          subst hgA
          have hk9 : k < 8 := by have := HN8.out; omega
          have hst := HO7.out.stored k (.string ⟨#[63]⟩)
          have HO8 := Lib.hid hst.1; have HG8 := Lib.hid (World.grownBy.trans HG7.out hst.2)
          have hc : wr.cell? ⟨g, k, none⟩ = some (Y[k]'(by rw [HY.out]; exact hlt)) := (HO7.out.cellAt k (by omega)).trans (List.getElem?_eq_getElem _)
          have hf := HO7.out.frozenAt k
          generalize Y[k]'(by rw [HY.out]; exact hlt) = yv at hc
          have HY8 := Lib.hid (show (Y.set k (.string ⟨#[63]⟩)).length = ps.length by rw [List.length_set]; exact HY.out)
          clear hst
          go_wp2_with fail
          go_roundw
          case rel => exact ⟨k + 1, _, by omega, by go_num, HY8, HO8, HG8⟩
          case measure => simp [intOf]; omega
        · have HX7 := Lib.hid (show Ext w4 wr from HX46.out.grown HG7.out (fun j hj => (HLT.out j hj).1))
          obtain rfl : k = ps.length := by omega
          clear hlt q2 q3
          have HXW := Lib.hid (HW3.out.trans (HX4.out.trans HX7.out))
          obtain ⟨q0, q1⟩ := (HT3.out.ext (HX4.out.trans HX7.out)).cells
          obtain ⟨q2, q3⟩ := HP7.out.cells
          have hEQ := REqual_at A c ps r A4 c4 ps r (by have := HN8.out; omega) (by have := HN8.out; omega) wr (HRS3.out.ext (HX4.out.trans HX7.out)) (HR4.out.ext HX7.out)
          rw [show decide (dat ps = dat ps ∧ r.data.toList = r.data.toList) = true from decide_eq_true ⟨rfl, rfl⟩] at hEQ
          have HEQ := Lib.hid hEQ
          clear hEQ
          go_wp2_with fail
          refine HEQ.out.mono ?_
          rintro _ w8 ⟨rfl, hx8⟩
          have HX8 := Lib.hid (HXW.out.trans hx8); clear hx8
          go_wp2_with fail
          refine (known_at _ (HM.out.ext (HX8.out))).mono ?_
          rintro _ wk ⟨rfl, hxk⟩
          go_wp2_with fail
          go_ret
          exact ⟨rfl, (HX8.out).trans hxk⟩
end Go.Proofs.YtgclchdccgkjaaaDoor.nameOrders
