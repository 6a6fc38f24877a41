/- NameParses: the law. (wip/tools/gennmlaw.py printed this.) -/
import Derived.Test.YtgclchdccgkjaaaDoorNm26
namespace Go.Proofs.YtgclchdccgkjaaaDoor.nameParses
open Go Go.RowKit
set_option linter.unusedVariables false

set_option maxRecDepth 100000 in
set_option maxHeartbeats 4000000 in
theorem law_walk (s : ByteArray) (w : World) (hm : MaxN w) :
    Calls Tryd.prog 4 #[.string s] w fun e w' => e = .returned (.bool true) ∧ Ext w w' := by
  have HM := Lib.hid hm; clear hm
  by_cases hb : 200 < s.size
  · have hb1 : (200 : Int) < (s.size : Int) := by omega
    clear hb
    go_enter Tryd.func4, Tryd.ntmps4
    go_wp2_with fail
    refine (known_at _ (HM.out.ext (Ext.refl w))).mono ?_
    rintro _ wk ⟨rfl, hxk⟩
    go_wp2_with fail
    go_ret
    exact ⟨rfl, (Ext.refl w).trans hxk⟩
  · have hb1 : (s.size : Int) ≤ 200 := by omega
    have hs : s.size ≤ 999 := by omega
    clear hb
    go_enter Tryd.func4, Tryd.ntmps4
    go_wp2_with fail
    refine (NParse_at s (by omega) w).mono ?_
    rintro _ w1 ⟨hp1, hx1⟩
    rcases hp1 with ⟨A1, c1, ps1, r1, hv1, ht1, rfl, hr1⟩ | ⟨hno1, rfl⟩
    · obtain ⟨V1, hV1, hxV1, hPB1⟩ := let_p w1 (.slice A1 ps1.length c1) r1
      have HX1 := Lib.hid (hx1.trans hxV1); have HR1 := Lib.hid (hr1.ext hxV1); have HPB1 := Lib.hid hPB1; have HV1 := Lib.hid hv1; have HT1 := Lib.hid ht1
      clear hx1 hxV1 hr1 hPB1 hv1 ht1
      go_wp2_with fail
      refine (RNParse_at s hs V1).mono ?_
      rintro _ w2 ⟨hp2, hx2⟩
      rcases hp2 with ⟨A2, c2, ps2, r2, hv2, ht2, rfl, hr2⟩ | ⟨hno2, rfl⟩
      · obtain ⟨V2, hV2, hxV2, hPB2⟩ := let_p w2 (.slice A2 ps2.length c2) r2
        have hinj := textN_inj (nameB_ne HV1.out) (nameB_ne hv2) (HT1.out.trans ht2.symm)
        have h14 := (nameB_parts HV1.out).2.2.1
        have h24 := (nameB_parts hv2).2.2.1
        rw [dat_length] at h14 h24
        have hEQ := REqual_at A1 c1 ps1 r1 A2 c2 ps2 r2 (by omega) (by omega) V2 (HR1.out.ext (hx2.trans hxV2)) (hr2.ext hxV2)
        rw [show decide (dat ps1 = dat ps2 ∧ r1.data.toList = r2.data.toList) = true from decide_eq_true hinj] at hEQ
        have HEQ := Lib.hid hEQ
        have HX2 := Lib.hid ((HX1.out.trans hx2).trans hxV2)
        obtain ⟨q0, q1⟩ := (HPB1.out.ext (hx2.trans hxV2)).cells
        obtain ⟨q2, q3⟩ := hPB2.cells
        clear hinj h14 h24 hEQ hPB2 hxV2 hx2 hr2 hv2 ht2 hV1
        go_wp2_with fail
        refine HEQ.out.mono ?_
        rintro _ w3 ⟨rfl, hx3⟩
        have HX3 := Lib.hid (HX2.out.trans hx3); clear hx3
        go_wp2_with fail
        refine (known_at _ (HM.out.ext (HX3.out))).mono ?_
        rintro _ wk ⟨rfl, hxk⟩
        go_wp2_with fail
        go_ret
        exact ⟨rfl, (HX3.out).trans hxk⟩
      · exact absurd HT1.out (hno2 _ _ HV1.out)
    · have HX1 := Lib.hid (hx1.alloc (.cells #[.slice none 0 0, .string ⟨#[]⟩] 24))
      have hPB1 : PB (w1.alloc (.cells #[.slice none 0 0, .string ⟨#[]⟩] 24)) w1.heap.size (.slice none 0 0) ⟨#[]⟩ := heap_alloc_new w1 _
      have HPB1 := Lib.hid hPB1
      have HNO1 := Lib.hid hno1
      clear hx1 hPB1 hno1
      go_wp2_with fail
      refine (RNParse_at s hs _).mono ?_
      rintro _ w2 ⟨hp2, hx2⟩
      rcases hp2 with ⟨A2, c2, ps2, r2, hv2, ht2, rfl, hr2⟩ | ⟨hno2, rfl⟩
      · exact absurd ht2 (HNO1.out _ _ hv2)
      · have hxa := (Ext.refl w2).alloc (.cells #[.slice none 0 0, .string ⟨#[]⟩] 24)
        have hEQ := REqual_at none 0 [] ⟨#[]⟩ none 0 [] ⟨#[]⟩ (by simp) (by simp) (w2.alloc (.cells #[.slice none 0 0, .string ⟨#[]⟩] 24)) (RS.nil _) (RS.nil _)
        have HEQ := Lib.hid hEQ
        have HX2 := Lib.hid ((HX1.out.trans hx2).trans hxa)
        obtain ⟨q0, q1⟩ := (HPB1.out.ext (hx2.trans hxa)).cells
        clear hEQ hxa hx2 hno2
        go_wp2_with fail
        refine HEQ.out.mono ?_
        rintro _ w3 ⟨rfl, hx3⟩
        have HX3 := Lib.hid (HX2.out.trans hx3); clear hx3
        go_wp2_with fail
        refine (known_at _ (HM.out.ext (HX3.out))).mono ?_
        rintro _ wk ⟨rfl, hxk⟩
        go_wp2_with fail
        go_ret
        exact ⟨rfl, (HX3.out).trans hxk⟩
end Go.Proofs.YtgclchdccgkjaaaDoor.nameParses
