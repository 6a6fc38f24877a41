/- FlagsInverts: the law. (wip/tools/genlawfl2.py printed this.) -/
import Derived.Test.YtigjecmhhjjenaaDoorMg34
import Derived.Test.YtigjecmhhjjenaaDoorFlK
import Derived.Test.YtigjecmhhjjenaaDoorMg3
namespace Go.Proofs.YtigjecmhhjjenaaDoor.flagsInverts
open Go Go.RowKit
set_option linter.unusedVariables false

set_option maxRecDepth 100000 in
set_option maxHeartbeats 4000000 in
theorem law_walk (i : Int) (s : ByteArray) (A : Option Addr) (c : Nat) (l : List UInt8) (w : World) (f0 : 0 ≤ i) (f1 : i ≤ 4294967295) (hl : BS w (.slice A l.length c) l) (hp : NoEnv w) :
    Calls Tryd.prog 10 #[.int .u32 i, .string s, .slice A l.length c] w fun e w' => e = .returned (.bool true) ∧ Ext w w' := by
  obtain ⟨f, rfl⟩ := u32_of i f0 f1
  clear f0 f1 hp
  have HBS := Lib.hid hl
  clear hl
  have HX0 := Lib.hid (Ext.refl w)
  go_enter Tryd.func10, Tryd.ntmps10
  by_cases hs : 200 < s.size
  · have hs1 : (200 : Int) < (s.size : Int) := by omega
    clear hs
    go_wp2_with fail
    refine (FKnown_at _).mono ?_
    rintro _ wk ⟨rfl, hxk⟩
    have HXk := Lib.hid (HX0.out.trans hxk)
    clear hxk
    go_wp2_with fail
    go_ret
    exact ⟨rfl, HXk.out⟩
  · have hs1 : (s.size : Int) ≤ 200 := by omega
    have HSZ := Lib.hid hs
    clear hs
    by_cases hs : 100 < l.length
    · have hs2 : (100 : Int) < (l.length : Int) := by omega
      clear hs
      go_wp2_with fail
      refine (FKnown_at _).mono ?_
      rintro _ wk ⟨rfl, hxk⟩
      have HXk := Lib.hid (HX0.out.trans hxk)
      clear hxk
      go_wp2_with fail
      go_ret
      exact ⟨rfl, HXk.out⟩
    · have hs2 : (l.length : Int) ≤ 100 := by omega
      obtain ⟨dv, de, hd⟩ : ∃ dv de, flDec l = (dv, de) := ⟨_, _, rfl⟩
      have HDV := Lib.hid hd
      have HD := Lib.hid (fun W hW => FDecode_at A c l (by omega) dv de HDV.out W (HBS.out.ext hW))
      clear hs hd
      cases hv : nmB f with
      | false =>
        have HT := Lib.hid (Text_no f hv w)
        clear hv
        go_wp2_with fail
        refine HT.out.mono ?_
        rintro _ w1 ⟨rfl, hx1⟩
        have HX1 := Lib.hid hx1
        clear hx1
        go_wp2_with fail
        refine (FParse_at s (by have := HSZ.out; omega) _).mono ?_
        rintro _ w6 ⟨hp6, hx6⟩
        have HX6 := Lib.hid (Ext.trans HX1.out hx6)
        clear hx6
        rcases hp6 with ⟨g, hg, hl, rfl⟩ | ⟨hno, rfl⟩
        · have HT6 := Lib.hid (Text_ok g hg)
          obtain ⟨U, hU⟩ : ∃ U, textF g = U := ⟨_, rfl⟩
          rw [hU] at HT6 hl
          have q6 : (U == s.toList) = true := by rw [ByteArray.toList_eq, hl]; exact beq_self_eq_true _
          clear hU hl hg
          go_wp2_with fail
          refine (HT6.out _).mono ?_
          rintro _ w7 ⟨rfl, hx7⟩
          have HX7 := Lib.hid (HX6.out.trans hx7)
          clear hx7
          go_wp2_with fail
          refine (HD.out _ HX7.out).mono ?_
          rintro _ w8 ⟨rfl, hx8⟩
          have HX8 := Lib.hid (Ext.trans HX7.out hx8)
          clear hx8
          by_cases hde : de = 0
          · obtain ⟨g, hg1, hg2, hg3⟩ := flDec_inv l dv (by have := HDV.out; rw [hde] at this; exact this)
            subst hg1
            subst hde
            have HE8 := Lib.hid (Encode_yes g hg2)
            rw [hg3] at HE8
            clear hg3 hg2
            go_wp2_with fail
            refine (HE8.out _).mono ?_
            rintro _ w9 ⟨Ax, cx, rfl, hbx, hx9⟩
            have HX9 := Lib.hid (HX8.out.trans hx9)
            have hcva := run_str (P := Tryd.prog) _ 50 9 5 _ _ Tryd.underlying50 Tryd.underlying5 Tryd.underlying9 hbx
            have hcvb := run_str (P := Tryd.prog) _ 50 9 5 _ _ Tryd.underlying50 Tryd.underlying5 Tryd.underlying9 (HBS.out.ext HX9.out)
            clear hx9 hbx
            go_wp2_with fail
            refine (FKnown_at _).mono ?_
            rintro _ wk ⟨rfl, hxk⟩
            have HXk := Lib.hid (HX9.out.trans hxk)
            clear hxk
            go_wp2_with fail
            go_ret
            exact ⟨rfl, HXk.out⟩
          · have qd : ((de : Int) == 0) = false := by rw [beq_eq_false_iff_ne]; omega
            clear hde
            go_wp2_with fail
            refine (FKnown_at _).mono ?_
            rintro _ wk ⟨rfl, hxk⟩
            have HXk := Lib.hid (HX8.out.trans hxk)
            clear hxk
            go_wp2_with fail
            go_ret
            exact ⟨rfl, HXk.out⟩
        · clear hno
          go_wp2_with fail
          refine (HD.out _ HX6.out).mono ?_
          rintro _ w8 ⟨rfl, hx8⟩
          have HX8 := Lib.hid (Ext.trans HX6.out hx8)
          clear hx8
          by_cases hde : de = 0
          · obtain ⟨g, hg1, hg2, hg3⟩ := flDec_inv l dv (by have := HDV.out; rw [hde] at this; exact this)
            subst hg1
            subst hde
            have HE8 := Lib.hid (Encode_yes g hg2)
            rw [hg3] at HE8
            clear hg3 hg2
            go_wp2_with fail
            refine (HE8.out _).mono ?_
            rintro _ w9 ⟨Ax, cx, rfl, hbx, hx9⟩
            have HX9 := Lib.hid (HX8.out.trans hx9)
            have hcva := run_str (P := Tryd.prog) _ 50 9 5 _ _ Tryd.underlying50 Tryd.underlying5 Tryd.underlying9 hbx
            have hcvb := run_str (P := Tryd.prog) _ 50 9 5 _ _ Tryd.underlying50 Tryd.underlying5 Tryd.underlying9 (HBS.out.ext HX9.out)
            clear hx9 hbx
            go_wp2_with fail
            refine (FKnown_at _).mono ?_
            rintro _ wk ⟨rfl, hxk⟩
            have HXk := Lib.hid (HX9.out.trans hxk)
            clear hxk
            go_wp2_with fail
            go_ret
            exact ⟨rfl, HXk.out⟩
          · have qd : ((de : Int) == 0) = false := by rw [beq_eq_false_iff_ne]; omega
            clear hde
            go_wp2_with fail
            refine (FKnown_at _).mono ?_
            rintro _ wk ⟨rfl, hxk⟩
            have HXk := Lib.hid (HX8.out.trans hxk)
            clear hxk
            go_wp2_with fail
            go_ret
            exact ⟨rfl, HXk.out⟩
      | true =>
        have hT := Text_ok f hv w
        have hPP := fun W => FParse_at ⟨(textF f).toArray⟩ (textF_small f) W
        have hPY := fun e he => PFl_yes (l := textF f) (e := e) he hv rfl
        obtain ⟨T, hTe⟩ : ∃ T, textF f = T := ⟨_, rfl⟩
        simp only [hTe] at hT hPP hPY
        have HT := Lib.hid hT; have HPP := Lib.hid hPP; have HPY := Lib.hid hPY
        have hE := Encode_yes f hv
        have hDE := flDec_enc f hv
        obtain ⟨L, hL⟩ : ∃ L, encBits (f.toNat : Int) = L := ⟨_, rfl⟩
        have HLN := Lib.hid (show L.length = 7 by rw [← hL]; exact bits_len _)
        rw [hL] at hE hDE
        have HE := Lib.hid hE; have HDE := Lib.hid hDE
        have q0 : ((f.toNat : Int) != (f.toNat : Int)) = false := by simp
        clear hv hT hPP hPY hTe hE hDE hL
        go_wp2_with fail
        refine HT.out.mono ?_
        rintro _ w1 ⟨rfl, hx1⟩
        have HX1 := Lib.hid hx1
        clear hx1
        go_wp2_with fail
        refine (HPP.out _).mono ?_
        rintro _ w2 ⟨hp2, hx2⟩
        obtain rfl := HPY.out _ hp2
        have HX2 := Lib.hid (HX1.out.trans hx2)
        clear hx2 hp2
        go_wp2_with fail
        refine (HE.out _).mono ?_
        rintro _ w3 ⟨Ae, ce, rfl, hbe, hx3⟩
        have HX3 := Lib.hid (HX2.out.trans hx3); have HBE := Lib.hid hbe
        clear hx3 hbe
        go_wp2_with fail
        refine (FDecode_at Ae ce L (by rw [HLN.out]; decide) _ 0 HDE.out _ HBE.out).mono ?_
        rintro _ w4 ⟨rfl, hx4⟩
        have HX4 := Lib.hid (HX3.out.trans hx4)
        clear hx4
        go_wp2_with fail
        refine (FParse_at s (by have := HSZ.out; omega) _).mono ?_
        rintro _ w6 ⟨hp6, hx6⟩
        have HX6 := Lib.hid (Ext.trans HX4.out hx6)
        clear hx6
        rcases hp6 with ⟨g, hg, hl, rfl⟩ | ⟨hno, rfl⟩
        · have HT6 := Lib.hid (Text_ok g hg)
          obtain ⟨U, hU⟩ : ∃ U, textF g = U := ⟨_, rfl⟩
          rw [hU] at HT6 hl
          have q6 : (U == s.toList) = true := by rw [ByteArray.toList_eq, hl]; exact beq_self_eq_true _
          clear hU hl hg
          go_wp2_with fail
          refine (HT6.out _).mono ?_
          rintro _ w7 ⟨rfl, hx7⟩
          have HX7 := Lib.hid (HX6.out.trans hx7)
          clear hx7
          go_wp2_with fail
          refine (HD.out _ HX7.out).mono ?_
          rintro _ w8 ⟨rfl, hx8⟩
          have HX8 := Lib.hid (Ext.trans HX7.out hx8)
          clear hx8
          by_cases hde : de = 0
          · obtain ⟨g, hg1, hg2, hg3⟩ := flDec_inv l dv (by have := HDV.out; rw [hde] at this; exact this)
            subst hg1
            subst hde
            have HE8 := Lib.hid (Encode_yes g hg2)
            rw [hg3] at HE8
            clear hg3 hg2
            go_wp2_with fail
            refine (HE8.out _).mono ?_
            rintro _ w9 ⟨Ax, cx, rfl, hbx, hx9⟩
            have HX9 := Lib.hid (HX8.out.trans hx9)
            have hcva := run_str (P := Tryd.prog) _ 50 9 5 _ _ Tryd.underlying50 Tryd.underlying5 Tryd.underlying9 hbx
            have hcvb := run_str (P := Tryd.prog) _ 50 9 5 _ _ Tryd.underlying50 Tryd.underlying5 Tryd.underlying9 (HBS.out.ext HX9.out)
            clear hx9 hbx
            go_wp2_with fail
            refine (FKnown_at _).mono ?_
            rintro _ wk ⟨rfl, hxk⟩
            have HXk := Lib.hid (HX9.out.trans hxk)
            clear hxk
            go_wp2_with fail
            go_ret
            exact ⟨rfl, HXk.out⟩
          · have qd : ((de : Int) == 0) = false := by rw [beq_eq_false_iff_ne]; omega
            clear hde
            go_wp2_with fail
            refine (FKnown_at _).mono ?_
            rintro _ wk ⟨rfl, hxk⟩
            have HXk := Lib.hid (HX8.out.trans hxk)
            clear hxk
            go_wp2_with fail
            go_ret
            exact ⟨rfl, HXk.out⟩
        · clear hno
          go_wp2_with fail
          refine (HD.out _ HX6.out).mono ?_
          rintro _ w8 ⟨rfl, hx8⟩
          have HX8 := Lib.hid (Ext.trans HX6.out hx8)
          clear hx8
          by_cases hde : de = 0
          · obtain ⟨g, hg1, hg2, hg3⟩ := flDec_inv l dv (by have := HDV.out; rw [hde] at this; exact this)
            subst hg1
            subst hde
            have HE8 := Lib.hid (Encode_yes g hg2)
            rw [hg3] at HE8
            clear hg3 hg2
            go_wp2_with fail
            refine (HE8.out _).mono ?_
            rintro _ w9 ⟨Ax, cx, rfl, hbx, hx9⟩
            have HX9 := Lib.hid (HX8.out.trans hx9)
            have hcva := run_str (P := Tryd.prog) _ 50 9 5 _ _ Tryd.underlying50 Tryd.underlying5 Tryd.underlying9 hbx
            have hcvb := run_str (P := Tryd.prog) _ 50 9 5 _ _ Tryd.underlying50 Tryd.underlying5 Tryd.underlying9 (HBS.out.ext HX9.out)
            clear hx9 hbx
            go_wp2_with fail
            refine (FKnown_at _).mono ?_
            rintro _ wk ⟨rfl, hxk⟩
            have HXk := Lib.hid (HX9.out.trans hxk)
            clear hxk
            go_wp2_with fail
            go_ret
            exact ⟨rfl, HXk.out⟩
          · have qd : ((de : Int) == 0) = false := by rw [beq_eq_false_iff_ne]; omega
            clear hde
            go_wp2_with fail
            refine (FKnown_at _).mono ?_
            rintro _ wk ⟨rfl, hxk⟩
            have HXk := Lib.hid (HX8.out.trans hxk)
            clear hxk
            go_wp2_with fail
            go_ret
            exact ⟨rfl, HXk.out⟩
end Go.Proofs.YtigjecmhhjjenaaDoor.flagsInverts
