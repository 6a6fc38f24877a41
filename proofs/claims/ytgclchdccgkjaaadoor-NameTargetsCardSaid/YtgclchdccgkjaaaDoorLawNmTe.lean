/- NameTargets: the law. (wip/tools/gennmlaw.py printed this.) -/
import Derived.Test.YtgclchdccgkjaaaDoorLawNmEn
namespace Go.Proofs.YtgclchdccgkjaaaDoor.nameTargets
open Go Go.RowKit
set_option linter.unusedVariables false

set_option maxRecDepth 100000 in
set_option maxHeartbeats 4000000 in
theorem walk_G (A : Option Addr) (c : Nat) (p q r : ByteArray) (to fr : ByteArray) (w : World) (hR : RS w (.slice A 2 c) (sv [p, q])) (hm : MaxN w) (hbig : bigB [p, q] r = false) (ht60 : to.size ≤ 60) (hf60 : fr.size ≤ 60) (hv : nameB (dat [p, q]) r.data.toList = true) (hk : p.data.toList = krb.data.toList) (hq2 : realmB q.data.toList = true) :
    Calls Tryd.prog 6 #[.agg #[.slice A 2 c, .string r], .string to, .string fr] w fun e w' => e = .returned (.bool true) ∧ Ext w w' := by
  obtain ⟨ad, hadA, hblt, hcell⟩ : ∃ ad, A = some ad ∧ ad.block < w.heap.size ∧ ∀ j u, (sv [p, q])[j]? = some u → w.cell? (ad.add j) = some u := by
    obtain ⟨A', c', he, _, _, e3⟩ := hR
    injection he with z1 _ _
    subst z1
    exact e3 (by simp [sv])
  subst hadA
  have HC0 := Lib.hid (show w.cell? ad = some (.string p) by have h := hcell 0 _ rfl; rwa [show ad.add 0 = ad by unfold Addr.add; simp] at h)
  have HC1 := Lib.hid (show w.cell? ⟨ad.block, ad.off + 1, none⟩ = some (.string q) by have h := hcell 1 _ rfl; rwa [show ad.add 1 = ⟨ad.block, ad.off + 1, none⟩ by unfold Addr.add; simp] at h)
  clear hcell hblt
  have HM := Lib.hid hm; clear hm
  have hT := heap_alloc_new w (.cells #[.slice (some ad) 2 c, .string r] 24)
  have hX := (Ext.refl w).alloc (.cells #[.slice (some ad) 2 c, .string r] 24)
  obtain ⟨wb, hwb⟩ : ∃ wb, wb = w.alloc (.cells #[.slice (some ad) 2 c, .string r] 24) := ⟨_, rfl⟩
  rw [← hwb] at hT hX
  have HT : Hid (PB wb w.heap.size (.slice (some ad) 2 c) r) := Lib.hid hT
  have HX := Lib.hid hX
  have HRS := Lib.hid (hR.ext hX)
  obtain ⟨q0, q1⟩ := HT.out.cells
  have HB := Lib.hid (big_at (some ad) c [p, q] r wb HRS.out)
  rw [hbig] at HB
  obtain ⟨hps, hn8, hr60⟩ := bigB_no hbig
  have hps3 : ∀ x ∈ [p, q], x.size ≤ 4294967280 := fun x hp => Nat.le_trans (hps x hp) (by omega)
  have hRV := fun W (hW : Ext wb W) => RValid_at (some ad) c [p, q] r (by simp) hps3 (by omega) W (HRS.out.ext hW)
  rw [hv] at hRV
  have HRV := Lib.hid hRV
  have hr4 : r.size ≤ 4294967280 := by omega
  have ht4 : to.size ≤ 4294967280 := by omega
  have hf4 : fr.size ≤ 4294967280 := by omega
  have HTG := Lib.hid (fun W (hW : Ext wb W) => Target_good (some ad) c p q r hps3 hr4 W (HRS.out.ext hW) hv hk hq2)
  have e1 : (p.toList == [107, 114, 98, 116, 103, 116]) = true := by rw [ByteArray.toList_eq, hk]; rfl
  have hq4 : q.size ≤ 4294967280 := hps3 q (by simp)
  have HRQ := Lib.hid (hq2 ▸ RRealm_at q hq4)
  obtain ⟨rt, hrt⟩ : ∃ x, realmB to.data.toList = x := ⟨_, rfl⟩
  obtain ⟨rf, hrf⟩ : ∃ x, realmB fr.data.toList = x := ⟨_, rfl⟩
  have hA1 := RRealm_at to ht4; have hA2 := RRealm_at fr hf4; have hA3 := TG_at to fr ht4 hf4
  rw [hrt] at hA1 hA3
  rw [hrf] at hA2 hA3
  have HA1 := Lib.hid hA1; have HA2 := Lib.hid hA2; have HA3 := Lib.hid hA3
  have hto : (to.size : Int) ≤ 60 := by omega
  have hfr : (fr.size : Int) ≤ 60 := by omega
  clear hT hX hR hbig hps hn8 hr60 hps3 hr4 ht4 hf4 hRV hrt hrf hA1 hA2 hA3 ht60 hf60 hv hk hq2
  go_enter Tryd.func6, Tryd.ntmps6
  go_wp2_with fail
  rw [← hwb]
  clear hwb
  refine HB.out.mono ?_
  rintro _ w1 ⟨rfl, hx1⟩
  have HX1 := Lib.hid hx1; clear hx1 q0 q1
  go_wp2_with fail
  refine (HA3.out w1).mono ?_
  rintro _ w2 ⟨hp, hx2⟩
  have HX2 := Lib.hid (HX1.out.trans hx2); clear hx2
  rcases hp with ⟨hrr, A3, c3, rfl, hr3⟩ | ⟨hrr, rfl⟩
  · obtain ⟨h1, h2⟩ : rt = true ∧ rf = true := by simpa using hrr
    subst h1; subst h2
    obtain ⟨V, hV, hxV, hPV⟩ := let_p w2 (.slice A3 2 c3) fr
    have HX3 := Lib.hid (HX2.out.trans hxV); have HP3 := Lib.hid hPV; have HR3 := Lib.hid (hr3.ext hxV)
    clear hrr hxV hPV hr3
    go_wp2_with fail
    refine (HA1.out _).mono ?_
    rintro _ w4 ⟨rfl, rfl⟩
    go_wp2_with fail
    refine (HA2.out _).mono ?_
    rintro _ w5 ⟨rfl, rfl⟩
    have hxa := (Ext.refl V).alloc (.cells #[.string ⟨#[107, 114, 98, 116, 103, 116]⟩, .string to] 9)
    have hEQ := REqual_at A3 c3 [krb, to] fr (some ⟨V.heap.size, 0, none⟩) 2 [krb, to] fr (by simp) (by simp) (V.alloc (.cells #[.string ⟨#[107, 114, 98, 116, 103, 116]⟩, .string to] 9)) (HR3.out.ext hxa) (parts2 V krb to)
    rw [show decide (dat [krb, to] = dat [krb, to] ∧ fr.data.toList = fr.data.toList) = true from decide_eq_true ⟨rfl, rfl⟩] at hEQ
    have HEQ := Lib.hid hEQ
    have HX4 := Lib.hid (HX3.out.trans hxa)
    obtain ⟨q0, q1⟩ := HP3.out.cells
    clear hxa hEQ hV
    go_wp2_with fail
    refine HEQ.out.mono ?_
    rintro _ w6 ⟨rfl, hx6⟩
    have HX6 := Lib.hid (HX4.out.trans hx6)
    clear hx6 q0 q1
    obtain ⟨q0, q1⟩ := (HT.out.ext HX6.out).cells
    have g0 := (HX.out.trans HX6.out).cell HC0.out
    have g1 := (HX.out.trans HX6.out).cell HC1.out
    go_wp2_with fail
    refine (HRV.out _ HX6.out).mono ?_
    rintro _ w8 ⟨rfl, hx8⟩
    have HX8 := Lib.hid (HX6.out.trans hx8)
    clear hx8 q0 q1 g0 g1
    obtain ⟨q0, q1⟩ := (HT.out.ext HX8.out).cells
    have g0 := (HX.out.trans HX8.out).cell HC0.out
    have g1 := (HX.out.trans HX8.out).cell HC1.out
    go_wp2_with fail
    refine (HRQ.out _).mono ?_
    rintro _ w9 ⟨rfl, rfl⟩
    go_wp2_with fail
    refine (HTG.out _ HX8.out).mono ?_
    rintro _ w9 ⟨rfl, hx9⟩
    have HX9 := Lib.hid (HX8.out.trans hx9)
    clear hx9 q0 q1 g0 g1
    obtain ⟨q0, q1⟩ := (HT.out.ext HX9.out).cells
    have g1 := (HX.out.trans HX9.out).cell HC1.out
    have HXE := Lib.hid (HX.out.trans HX9.out)
    go_wp2_with fail
    refine (known_at _ (HM.out.ext (HXE.out))).mono ?_
    rintro _ wk ⟨rfl, hxk⟩
    go_wp2_with fail
    go_ret
    exact ⟨rfl, (HXE.out).trans hxk⟩
  · have HX3 := Lib.hid (HX2.out.alloc (.cells #[.slice none 0 0, .string ⟨#[]⟩] 24))
    have HP3 := Lib.hid (show PB (w2.alloc (.cells #[.slice none 0 0, .string ⟨#[]⟩] 24)) w2.heap.size (.slice none 0 0) ⟨#[]⟩ from heap_alloc_new w2 _)
    cases rt with
    | false =>
      clear hrr
      go_wp2_with fail
      refine (HA1.out _).mono ?_
      rintro _ w4 ⟨rfl, rfl⟩
      obtain ⟨q0, q1⟩ := (HT.out.ext HX3.out).cells
      have g0 := (HX.out.trans HX3.out).cell HC0.out
      have g1 := (HX.out.trans HX3.out).cell HC1.out
      go_wp2_with fail
      refine (HRV.out _ HX3.out).mono ?_
      rintro _ w8 ⟨rfl, hx8⟩
      have HX8 := Lib.hid (HX3.out.trans hx8)
      clear hx8 q0 q1 g0 g1
      obtain ⟨q0, q1⟩ := (HT.out.ext HX8.out).cells
      have g0 := (HX.out.trans HX8.out).cell HC0.out
      have g1 := (HX.out.trans HX8.out).cell HC1.out
      go_wp2_with fail
      refine (HRQ.out _).mono ?_
      rintro _ w9 ⟨rfl, rfl⟩
      go_wp2_with fail
      refine (HTG.out _ HX8.out).mono ?_
      rintro _ w9 ⟨rfl, hx9⟩
      have HX9 := Lib.hid (HX8.out.trans hx9)
      clear hx9 q0 q1 g0 g1
      obtain ⟨q0, q1⟩ := (HT.out.ext HX9.out).cells
      have g1 := (HX.out.trans HX9.out).cell HC1.out
      have HXE := Lib.hid (HX.out.trans HX9.out)
      go_wp2_with fail
      refine (known_at _ (HM.out.ext (HXE.out))).mono ?_
      rintro _ wk ⟨rfl, hxk⟩
      go_wp2_with fail
      go_ret
      exact ⟨rfl, (HXE.out).trans hxk⟩
    | true =>
      obtain rfl : rf = false := by simpa using hrr
      clear hrr
      go_wp2_with fail
      refine (HA1.out _).mono ?_
      rintro _ w4 ⟨rfl, rfl⟩
      go_wp2_with fail
      refine (HA2.out _).mono ?_
      rintro _ w5 ⟨rfl, rfl⟩
      obtain ⟨q0, q1⟩ := (HT.out.ext HX3.out).cells
      have g0 := (HX.out.trans HX3.out).cell HC0.out
      have g1 := (HX.out.trans HX3.out).cell HC1.out
      go_wp2_with fail
      refine (HRV.out _ HX3.out).mono ?_
      rintro _ w8 ⟨rfl, hx8⟩
      have HX8 := Lib.hid (HX3.out.trans hx8)
      clear hx8 q0 q1 g0 g1
      obtain ⟨q0, q1⟩ := (HT.out.ext HX8.out).cells
      have g0 := (HX.out.trans HX8.out).cell HC0.out
      have g1 := (HX.out.trans HX8.out).cell HC1.out
      go_wp2_with fail
      refine (HRQ.out _).mono ?_
      rintro _ w9 ⟨rfl, rfl⟩
      go_wp2_with fail
      refine (HTG.out _ HX8.out).mono ?_
      rintro _ w9 ⟨rfl, hx9⟩
      have HX9 := Lib.hid (HX8.out.trans hx9)
      clear hx9 q0 q1 g0 g1
      obtain ⟨q0, q1⟩ := (HT.out.ext HX9.out).cells
      have g1 := (HX.out.trans HX9.out).cell HC1.out
      have HXE := Lib.hid (HX.out.trans HX9.out)
      go_wp2_with fail
      refine (known_at _ (HM.out.ext (HXE.out))).mono ?_
      rintro _ wk ⟨rfl, hxk⟩
      go_wp2_with fail
      go_ret
      exact ⟨rfl, (HXE.out).trans hxk⟩
end Go.Proofs.YtgclchdccgkjaaaDoor.nameTargets
