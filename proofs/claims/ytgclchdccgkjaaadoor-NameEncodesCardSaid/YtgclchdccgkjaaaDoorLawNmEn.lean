/- NameEncodes: the law. (wip/tools/gennmlaw.py printed this.) -/
import Derived.Test.YtgclchdccgkjaaaDoorNm26
namespace Go.Proofs.YtgclchdccgkjaaaDoor.nameEncodes
open Go Go.RowKit
set_option linter.unusedVariables false

set_option maxRecDepth 100000 in
set_option maxHeartbeats 4000000 in
theorem law_walk (A : Option Addr) (c : Nat) (ps : List ByteArray) (r : ByteArray) (w : World) (hR : RS w (.slice A ps.length c) (sv ps)) (hm : MaxN w) :
    Calls Tryd.prog 5 #[.agg #[.slice A ps.length c, .string r]] w fun e w' => e = .returned (.bool true) ∧ Ext w w' := by
  have HM := Lib.hid hm; clear hm
  have hT := heap_alloc_new w (.cells #[.slice A ps.length c, .string r] 24)
  have hX := (Ext.refl w).alloc (.cells #[.slice A ps.length c, .string r] 24)
  obtain ⟨wb, hwb⟩ : ∃ wb, wb = w.alloc (.cells #[.slice A ps.length c, .string r] 24) := ⟨_, rfl⟩
  rw [← hwb] at hT hX
  have HT : Hid (PB wb w.heap.size (.slice A ps.length c) r) := Lib.hid hT
  have HX := Lib.hid hX
  have HRS := Lib.hid (hR.ext hX)
  obtain ⟨q0, q1⟩ := HT.out.cells
  have HBG := big_at A c ps r wb HRS.out
  have HB := Lib.hid HBG; clear HBG
  cases hbig : bigB ps r with
  | true =>
    rw [hbig] at HB
    clear hbig hT hX hR
    go_enter Tryd.func5, Tryd.ntmps5
    go_wp2_with fail
    rw [← hwb]
    clear hwb
    refine HB.out.mono ?_
    rintro _ w1 ⟨rfl, hx1⟩
    have HX1 := Lib.hid (HX.out.trans hx1); clear hx1
    go_wp2_with fail
    refine (known_at _ (HM.out.ext (HX1.out))).mono ?_
    rintro _ wk ⟨rfl, hxk⟩
    go_wp2_with fail
    go_ret
    exact ⟨rfl, (HX1.out).trans hxk⟩
  | false =>
    rw [hbig] at HB
    obtain ⟨hps, hn8, hr60⟩ := bigB_no hbig
    have hps2 : ∀ p ∈ ps, p.size ≤ 1000 := fun p hp => Nat.le_trans (hps p hp) (by omega)
    have hps3 : ∀ p ∈ ps, p.size ≤ 4294967280 := fun p hp => Nat.le_trans (hps p hp) (by omega)
    have HRV := Lib.hid (fun W hW => RValid_at A c ps r (by omega) hps3 (by omega) W (hR.ext (hX.trans hW)))
    clear hbig hT hX hR hps
    cases hv : nameB (dat ps) r.data.toList with
    | false =>
      have HE := Lib.hid (NEncode_no A c ps r hps3 (by omega))
      have HNV := Lib.hid hv
      rw [hv] at HRV
      clear hv
      go_enter Tryd.func5, Tryd.ntmps5
      go_wp2_with fail
      rw [← hwb]
      clear hwb
      refine HB.out.mono ?_
      rintro _ w1 ⟨rfl, hx1⟩
      have HX1 := Lib.hid hx1; clear hx1 q0 q1
      obtain ⟨q0, q1⟩ := (HT.out.ext HX1.out).cells
      go_wp2_with fail
      refine (HE.out _ (HRS.out.ext HX1.out) HNV.out).mono ?_
      rintro _ w2 ⟨rfl, hx2⟩
      have HX2 := Lib.hid (HX1.out.trans hx2); clear hx2 q0 q1
      obtain ⟨q0, q1⟩ := (HT.out.ext HX2.out).cells
      go_wp2_with fail
      refine (HRV.out _ HX2.out).mono ?_
      rintro _ w3 ⟨rfl, hx3⟩
      have HX3 := Lib.hid (HX.out.trans (HX2.out.trans hx3)); clear hx3 q0 q1
      go_wp2_with fail
      refine (known_at _ (HM.out.ext (HX3.out))).mono ?_
      rintro _ wk ⟨rfl, hxk⟩
      go_wp2_with fail
      go_ret
      exact ⟨rfl, (HX3.out).trans hxk⟩
    | true =>
      have HE := Lib.hid (NEncode_yes A c ps r)
      have HNV := Lib.hid hv
      rw [hv] at HRV
      clear hv
      go_enter Tryd.func5, Tryd.ntmps5
      go_wp2_with fail
      rw [← hwb]
      clear hwb
      refine HB.out.mono ?_
      rintro _ w0 ⟨rfl, hx1⟩
      have HX1 := Lib.hid hx1; clear hx1 q0 q1
      obtain ⟨q0, q1⟩ := (HT.out.ext HX1.out).cells
      go_wp2_with fail
      refine (HE.out _ (HRS.out.ext HX1.out) HNV.out).mono ?_
      rintro _ w1 ⟨A3, c3, rfl, hb3, hx2⟩
      have HX2 := Lib.hid (HX1.out.trans hx2); have HB2 := Lib.hid hb3; clear hx2 hb3 q0 q1 HX1
      obtain ⟨q0, q1⟩ := (HT.out.ext HX2.out).cells
      go_wp2_with fail
      refine (HRV.out _ HX2.out).mono ?_
      rintro _ w2 ⟨rfl, hx3⟩
      have HX1 := Lib.hid (HX2.out.trans hx3); have HB3 := Lib.hid (HB2.out.ext hx3); clear hx3 q0 q1 HX2 HB2
      have HX2 := Lib.hid (HX.out.trans HX1.out)
      have HT2 := Lib.hid (HT.out.ext HX1.out)
      obtain ⟨Ln, hLn⟩ : ∃ Ln, encName (dat ps) r.data.toList = Ln := ⟨_, rfl⟩
      have hRE := RNEncode_at A c ps r (by omega) hps2 (by omega)
      rw [hLn] at HB3 hRE ⊢
      have HRE := Lib.hid hRE
      clear hLn hRE
      go_wp2_with fail
      refine wp_region_ext (fun i v' w' => match i with | 3 => VBn Ln v' w' | 11 => v' = .bool true | _ => False) (by kernel_rfl) (by kernel_rfl) ?_
      refine wpE_op rfl rfl (fun w' hw' K' hK' => ?_)
      have hE := hw'.1
      go_step
      refine hK' _ ⟨_, rfl⟩ ?_
      clear hK' K' hE hw' w'
      refine wpE_op rfl rfl (fun w' hw' K' hK' => ?_)
      have hE := hw'.1
      have hcv := run_str (P := Tryd.prog) w' 38 9 5 _ _ Tryd.underlying38 Tryd.underlying5 Tryd.underlying9 (HB3.out.bs.ext ((Ext.drew w2).trans hE))
      go_step
      refine hK' _ ⟨_, rfl⟩ ?_
      clear hK' K' hcv hE hw' w'
      refine wpE_op rfl rfl (fun w' hw' K' hK' => ?_)
      have hE := hw'.1
      obtain ⟨u0, u1⟩ := (HT2.out.ext ((Ext.drew w2).trans hE)).cells
      go_step
      refine hK' _ ⟨_, rfl⟩ ?_
      clear hK' K' u0 u1 hE hw' w'
      refine wpE_call 29 rfl (by simp) rfl (fun w' hw' K' hK' => ?_) ?_
      · have hE := hw'.1
        go_step
        refine (HRE.out w' (HRS.out.ext ((HX1.out.trans (Ext.drew w2)).trans hE))).mono ?_
        rintro _ w2 ⟨A5, c5, rfl, hb5, hx5⟩
        exact hK' _ _ ⟨_, rfl, A5, c5, rfl, hb5.bs⟩ hx5
      rintro v4 w4 _ ⟨A4, c4, rfl, hb4⟩
      simp only [Act.put, List.setIfInBounds_toArray, List.set_cons_succ, List.set_cons_zero]
      refine wpE_op rfl rfl (fun w' hw' K' hK' => ?_)
      have hE := hw'.1
      have hM : Ext w4 w' := hw'.2 29 w4 (by simp [adds]) (by decide)
      have hcv := run_str (P := Tryd.prog) w' 38 9 5 _ _ Tryd.underlying38 Tryd.underlying5 Tryd.underlying9 (hb4.ext hM)
      go_step
      refine hK' _ ⟨_, rfl⟩ ?_
      clear hK' K' hcv hM hE hw' w'
      refine wpE_op rfl rfl (fun w' hw' K' hK' => ?_)
      have hE := hw'.1
      go_step
      refine hK' _ ⟨_, rfl⟩ ?_
      clear hK' K' hE hw' w'
      refine wpE_op rfl rfl (fun w' hw' K' hK' => ?_)
      have hE := hw'.1
      go_step
      refine hK' _ ⟨_, rfl⟩ ?_
      clear hK' K' hE hw' w'
      refine wpE_op (by kernel_rfl) rfl (fun w' hw' K' hK' => ?_)
      have hE := hw'.1
      go_step
      refine hK' _ ⟨_, rfl⟩ ?_
      clear hK' K' hE hw' w'
      refine wpE_op (by kernel_rfl) rfl (fun w' hw' K' hK' => ?_)
      have hE := hw'.1
      go_step
      refine hK' _ ⟨_, rfl⟩ ?_
      clear hK' K' hE hw' w'
      refine wpE_op rfl rfl (fun w' hw' K' hK' => ?_)
      have hE := hw'.1
      go_step
      refine hK' _ ⟨_, rfl⟩ ?_
      clear hK' K' hE hw' w'
      refine wpE_op rfl rfl (fun w' hw' K' hK' => ?_)
      have hE := hw'.1
      go_step
      refine hK' _ ⟨_, rfl⟩ ?_
      clear hK' K' hE hw' w'
      refine wpE_call 37 rfl (by simp) (by kernel_rfl) (fun w' hw' K' hK' => ?_) ?_
      · have hE := hw'.1
        go_step
        refine (known_at w' (HM.out.ext ((HX2.out.trans (Ext.drew w2)).trans hE))).mono ?_
        rintro _ w2 ⟨rfl, hx5⟩
        exact hK' _ _ ⟨_, rfl, rfl⟩ hx5
      rintro _ w5 _ rfl
      simp only [Act.put, List.setIfInBounds_toArray, List.set_cons_succ, List.set_cons_zero]
      refine wpE_op rfl rfl (fun w' hw' K' hK' => ?_)
      have hE := hw'.1
      go_step
      refine hK' _ ⟨_, rfl⟩ ?_
      clear hK' K' hE hw' w'
      refine wpE_op rfl rfl (fun w' hw' K' hK' => ?_)
      have hE := hw'.1
      go_step
      refine hK' _ ⟨_, rfl⟩ ?_
      clear hK' K' hE hw' w'
      refine wpE_nil (fun w' hw' => ?_)
      have hE := hw'.1
      go_wp2_with fail
      go_ret
      exact ⟨rfl, (HX2.out.trans (Ext.drew w2)).trans hE⟩
end Go.Proofs.YtgclchdccgkjaaaDoor.nameEncodes
