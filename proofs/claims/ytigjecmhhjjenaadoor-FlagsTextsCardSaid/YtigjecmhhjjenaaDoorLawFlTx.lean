/- FlagsTexts: the law. (wip/tools/genlawfl.py printed this.) -/
import Derived.Test.YtigjecmhhjjenaaDoorFlK
import Derived.Test.YtigjecmhhjjenaaDoorFlR5
import Derived.Test.YtigjecmhhjjenaaDoorRowF
namespace Go.Proofs.YtigjecmhhjjenaaDoor.flagsTexts
open Go Go.RowKit
set_option linter.unusedVariables false

set_option maxRecDepth 100000 in
set_option maxHeartbeats 2000000 in
theorem law_walk (i : Int) (s : ByteArray) (w : World) (f0 : 0 ≤ i) (f1 : i ≤ 4294967295) (hp : NoEnv w) :
    Calls Tryd.prog 4 #[.int .u32 i, .string s] w fun e w' => e = .returned (.bool true) ∧ Ext w w' := by
  obtain ⟨f, rfl⟩ := u32_of i f0 f1
  clear f0 f1 hp
  have HX0 := Lib.hid (Ext.refl w)
  go_enter Tryd.func4, Tryd.ntmps4
  by_cases hs : 200 < s.size
  · have hs1 : (200 : Int) < (s.size : Int) := by omega
    clear hs
    go_wp2_with fail
    refine (FKnown_at _).mono ?_
    rintro _ wk ⟨rfl, hxk⟩
    have HXk := Lib.hid (HX0.out.trans hxk)
    clear hxk
    go_wp2_with fail
    go_ret
    exact ⟨rfl, HXk.out⟩
  · have hs1 : (s.size : Int) ≤ 200 := by omega
    have HSZ := Lib.hid hs
    clear hs
    cases hv : nmB f with
    | false =>
      have HT := Lib.hid (Text_no f hv w)
      have HN := Lib.hid (fun W => hv ▸ RNamed_at f W)
      clear hv
      go_wp2_with fail
      refine HT.out.mono ?_
      rintro _ w1 ⟨rfl, hx1⟩
      have HX1 := Lib.hid hx1
      clear hx1
      go_wp2_with fail
      refine (HN.out _).mono ?_
      rintro _ w2 ⟨rfl, hx2⟩
      have HX2 := Lib.hid (HX1.out.trans hx2)
      clear hx2
      go_wp2_with fail
      refine (FParse_at s (by have := HSZ.out; omega) _).mono ?_
      rintro _ w3 ⟨hp3, hx3⟩
      have HX3 := Lib.hid (HX2.out.trans hx3)
      clear hx3
      rcases hp3 with ⟨g, hg, hl, rfl⟩ | ⟨hno, rfl⟩
      · have HG := Lib.hid hg; have HL := Lib.hid hl
        have q1 : ((g.toNat : Int) == (g.toNat : Int)) = true := beq_self_eq_true _
        clear hg hl
        go_wp2_with fail
        refine (RFParse_at s (by have := HSZ.out; omega) _).mono ?_
        rintro _ w4 ⟨hp4, hx4⟩
        obtain rfl := PFl_yes hp4 HG.out HL.out
        have HX4 := Lib.hid (HX3.out.trans hx4)
        clear hx4 hp4
        go_wp2_with fail
        refine (FKnown_at _).mono ?_
        rintro _ wk ⟨rfl, hxk⟩
        have HXk := Lib.hid (HX4.out.trans hxk)
        clear hxk
        go_wp2_with fail
        go_ret
        exact ⟨rfl, HXk.out⟩
      · have HNO := Lib.hid hno
        clear hno
        go_wp2_with fail
        refine (RFParse_at s (by have := HSZ.out; omega) _).mono ?_
        rintro _ w4 ⟨hp4, hx4⟩
        obtain rfl := PFl_no hp4 HNO.out
        have HX4 := Lib.hid (HX3.out.trans hx4)
        clear hx4 hp4
        go_wp2_with fail
        refine (FKnown_at _).mono ?_
        rintro _ wk ⟨rfl, hxk⟩
        have HXk := Lib.hid (HX4.out.trans hxk)
        clear hxk
        go_wp2_with fail
        go_ret
        exact ⟨rfl, HXk.out⟩
    | true =>
      have hT := Text_ok f hv w
      have hRT := fun W => RText_at f hv W
      obtain ⟨T, hTe⟩ : ∃ T, textF f = T := ⟨_, rfl⟩
      rw [hTe] at hT
      simp only [hTe] at hRT
      have HT := Lib.hid hT; have HRT := Lib.hid hRT
      have HN := Lib.hid (fun W => hv ▸ RNamed_at f W)
      have q0 : (T == T) = true := beq_self_eq_true _
      clear hv hT hRT hTe
      go_wp2_with fail
      refine HT.out.mono ?_
      rintro _ w1 ⟨rfl, hx1⟩
      have HX1 := Lib.hid hx1
      clear hx1
      go_wp2_with fail
      refine (HN.out _).mono ?_
      rintro _ w2 ⟨rfl, hx2⟩
      have HX2 := Lib.hid (HX1.out.trans hx2)
      clear hx2
      go_wp2_with fail
      refine (HRT.out _).mono ?_
      rintro _ wq ⟨rfl, hxq⟩
      have HXq := Lib.hid (HX2.out.trans hxq)
      clear hxq
      go_wp2_with fail
      refine (FParse_at s (by have := HSZ.out; omega) _).mono ?_
      rintro _ w3 ⟨hp3, hx3⟩
      have HX3 := Lib.hid (HXq.out.trans hx3)
      clear hx3
      rcases hp3 with ⟨g, hg, hl, rfl⟩ | ⟨hno, rfl⟩
      · have HG := Lib.hid hg; have HL := Lib.hid hl
        have q1 : ((g.toNat : Int) == (g.toNat : Int)) = true := beq_self_eq_true _
        clear hg hl
        go_wp2_with fail
        refine (RFParse_at s (by have := HSZ.out; omega) _).mono ?_
        rintro _ w4 ⟨hp4, hx4⟩
        obtain rfl := PFl_yes hp4 HG.out HL.out
        have HX4 := Lib.hid (HX3.out.trans hx4)
        clear hx4 hp4
        go_wp2_with fail
        refine (FKnown_at _).mono ?_
        rintro _ wk ⟨rfl, hxk⟩
        have HXk := Lib.hid (HX4.out.trans hxk)
        clear hxk
        go_wp2_with fail
        go_ret
        exact ⟨rfl, HXk.out⟩
      · have HNO := Lib.hid hno
        clear hno
        go_wp2_with fail
        refine (RFParse_at s (by have := HSZ.out; omega) _).mono ?_
        rintro _ w4 ⟨hp4, hx4⟩
        obtain rfl := PFl_no hp4 HNO.out
        have HX4 := Lib.hid (HX3.out.trans hx4)
        clear hx4 hp4
        go_wp2_with fail
        refine (FKnown_at _).mono ?_
        rintro _ wk ⟨rfl, hxk⟩
        have HXk := Lib.hid (HX4.out.trans hxk)
        clear hxk
        go_wp2_with fail
        go_ret
        exact ⟨rfl, HXk.out⟩
end Go.Proofs.YtigjecmhhjjenaaDoor.flagsTexts
