/- FlagsDecodes: the law. (wip/tools/genlawfl2.py printed this.) -/
import Derived.Test.YtigjecmhhjjenaaDoorMg34
import Derived.Test.YtigjecmhhjjenaaDoorFlK
import Derived.Test.YtigjecmhhjjenaaDoorMg3
namespace Go.Proofs.YtigjecmhhjjenaaDoor.flagsDecodes
open Go Go.RowKit
set_option linter.unusedVariables false

set_option maxRecDepth 100000 in
set_option maxHeartbeats 4000000 in
theorem law_walk (i : Int) (A : Option Addr) (c : Nat) (l : List UInt8) (w : World) (f0 : 0 ≤ i) (f1 : i ≤ 4294967295) (hl : BS w (.slice A l.length c) l) (hp : NoEnv w) :
    Calls Tryd.prog 9 #[.int .u32 i, .slice A l.length c] w fun e w' => e = .returned (.bool true) ∧ Ext w w' := by
  obtain ⟨f, rfl⟩ := u32_of i f0 f1
  clear f0 f1 hp
  have HBS := Lib.hid hl
  clear hl
  have HX0 := Lib.hid (Ext.refl w)
  go_enter Tryd.func9, Tryd.ntmps9
  by_cases hs : 100 < l.length
  · have hs1 : (100 : Int) < (l.length : Int) := by omega
    clear hs
    go_wp2_with fail
    refine (FKnown_at _).mono ?_
    rintro _ wk ⟨rfl, hxk⟩
    have HXk := Lib.hid (HX0.out.trans hxk)
    clear hxk
    go_wp2_with fail
    go_ret
    exact ⟨rfl, HXk.out⟩
  · have hs1 : (l.length : Int) ≤ 100 := by omega
    have HSZ := Lib.hid hs
    clear hs
    obtain ⟨dv, de, hd⟩ : ∃ dv de, flDec l = (dv, de) := ⟨_, _, rfl⟩
    obtain ⟨rv, re, us, hfr⟩ : ∃ rv re us, flRd l = (rv, re, us) := ⟨_, _, _, rfl⟩
    have hus := flRd_used l
    rw [hfr] at hus
    have HFR : Hid (flRd (l.drop 0) = (rv, re, us)) := Lib.hid (by rw [List.drop_zero]; exact hfr)
    have HUS : Hid (us ≤ l.length) := Lib.hid hus
    clear hfr hus
    have q1 : (dv != dv) = false := by simp
    have q2 : ((de : Int) != (de : Int)) = false := by simp
    have q3 : (rv != rv) = false := by simp
    have q4 : ((re : Int) != (re : Int)) = false := by simp
    cases hv : nmB f with
    | false =>
      have HE := Lib.hid (Encode_no f hv)
      have HN := Lib.hid (fun W => hv ▸ RNamed_at f W)
      clear hv
      go_wp2_with fail
      refine (HE.out _).mono ?_
      rintro _ w0 ⟨rfl, hx0⟩
      have HXa := Lib.hid hx0
      clear hx0
      go_wp2_with fail
      refine (HN.out _).mono ?_
      rintro _ w1 ⟨rfl, hx1⟩
      have HX1 := Lib.hid (HXa.out.trans hx1)
      clear hx1
      have HD := Lib.hid (fun W hW => FDecode_at A c l (by have := HSZ.out; omega) dv de hd W (HBS.out.ext hW))
      have HRDc := Lib.hid (fun W hW => RDecode_at A c l dv de hd W (HBS.out.ext hW))
      go_wp2_with fail
      refine (HD.out _ HX1.out).mono ?_
      rintro _ w2 ⟨rfl, hx2⟩
      have HX2 := Lib.hid (HX1.out.trans hx2)
      clear hx2
      go_wp2_with fail
      refine (HRDc.out _ HX2.out).mono ?_
      rintro _ w3 ⟨rfl, hx3⟩
      have HX3 := Lib.hid (HX2.out.trans hx3)
      clear hx3
      go_wp2_with fail
      refine (New_at A c l _ (HBS.out.ext HX3.out) (by have := HSZ.out; omega)).mono ?_
      rintro _ w4 ⟨g, rfl, hg, hr4, hx4⟩
      have HX4 := Lib.hid (HX3.out.trans hx4); have HR4 := Lib.hid hr4; have HG := Lib.hid hg
      clear hx4 hr4 hg
      go_wp2_with fail
      refine (FRead_at g l 0 rv re us HFR.out _ HR4.out).mono ?_
      rintro _ w5 ⟨rfl, hr5, hg5⟩
      have HR5 := Lib.hid hr5
      have HX5 := Lib.hid (show Ext w w5 from HX4.out.grown hg5 (fun j hj => by injection hj with hj; have := HG.out; have := HX3.out.size; omega))
      clear hr5 hg5
      go_wp2_with fail
      refine (RRead_at A c l 0 (by decide) rv re us HFR.out _ (HBS.out.ext HX5.out)).mono ?_
      rintro _ w6 ⟨rfl, hx6⟩
      have HX6 := Lib.hid (HX5.out.trans hx6); have HR6 := Lib.hid (HR5.out.ext hx6)
      clear hx6
      rw [Nat.zero_add]
      go_wp2_with fail
      refine (Left_at g l us _ (by have := HR6.out; rwa [Nat.zero_add] at this)).mono ?_
      rintro _ w7 ⟨rfl, hx7⟩
      have HX7 := Lib.hid (HX6.out.trans hx7)
      clear hx7
      have q5 : (((l.length - us : Nat) : Int) != (l.length : Int) - (us : Int)) = false := by rw [bne_eq_false_iff_eq]; have := HUS.out; omega
      have q6 : -9223372036854775808 ≤ (l.length : Int) - (us : Int) ∧ (l.length : Int) - (us : Int) ≤ 9223372036854775807 := by have := HUS.out; have := HSZ.out; omega
      go_wp2_with fail
      refine (FNoRead_at _ _ (.inl rfl)).mono ?_
      rintro _ w8 ⟨rfl, hx8⟩
      have HX8 := Lib.hid (HX7.out.trans hx8)
      clear hx8
      have hb9 := heap_alloc_new w8 (.cells #[.slice none 0 0, .int .i64 0, .bool false] 65)
      have hx9 := (Ext.refl w8).alloc (.cells #[.slice none 0 0, .int .i64 0, .bool false] 65)
      have HB9 := Lib.hid hb9; have HX9 := Lib.hid hx9
      clear hb9 hx9
      go_wp2_with fail
      refine (FNoRead_at _ _ (.inr ⟨_, rfl, HB9.out⟩)).mono ?_
      rintro _ w10 ⟨rfl, hx10⟩
      have HX10 := Lib.hid (HX8.out.trans (HX9.out.trans hx10))
      clear hx10
      go_wp2_with fail
      refine (FKnown_at _).mono ?_
      rintro _ wk ⟨rfl, hxk⟩
      have HXk := Lib.hid (HX10.out.trans hxk)
      clear hxk
      go_wp2_with fail
      go_ret
      exact ⟨rfl, HXk.out⟩
    | true =>
      have HE := Lib.hid (Encode_yes f hv)
      have HN := Lib.hid (fun W => hv ▸ RNamed_at f W)
      clear hv
      go_wp2_with fail
      refine (HE.out _).mono ?_
      rintro _ w0 ⟨Ae, ce, rfl, hbe, hx0⟩
      have HXa := Lib.hid hx0
      have HBE := Lib.hid hbe
      clear hx0 hbe
      go_wp2_with fail
      refine (HN.out _).mono ?_
      rintro _ w1 ⟨rfl, hx1⟩
      have HX1 := Lib.hid (HXa.out.trans hx1)
      have HBE1 := Lib.hid (HBE.out.ext hx1)
      clear hx1 HBE
      have H0 := Lib.hid (byteAt_toNat (f.toNat : Int) 0); have H1 := Lib.hid (byteAt_toNat (f.toNat : Int) 1); have H2 := Lib.hid (byteAt_toNat (f.toNat : Int) 2); have H3 := Lib.hid (byteAt_toNat (f.toNat : Int) 3)
      have HBV := Lib.hid (bv_bits (f.toNat : Int)); have HBL := Lib.hid (bits_len (f.toNat : Int))
      obtain ⟨L, hL⟩ : ∃ L, encBits (f.toNat : Int) = L := ⟨_, rfl⟩
      rw [hL] at HBV HBL HBE1
      rw [hL]
      have hcv0 := run_str (P := Tryd.prog) w1 50 9 5 _ _ Tryd.underlying50 Tryd.underlying5 Tryd.underlying9 HBE1.out
      have hb2 : BS (w1.alloc (.cells #[.int .u8 3, .int .u8 5, .int .u8 0, .int .u8 ((f.toNat : Int) / 16777216), .int .u8 ((f.toNat : Int) / 65536 % 256), .int .u8 ((f.toNat : Int) / 256 % 256), .int .u8 ((f.toNat : Int) % 256)] 5)) (.slice (some ⟨w1.heap.size, 0, none⟩) 7 7) L := BS.new' w1 5 _ L (by rw [HBV.out, H0.out, H1.out, H2.out, H3.out]; have := f.isLt; simp <;> omega) 7 HBL.out.symm (by rw [HBL.out]; simp [maxLen])
      have hcv1 := run_str (P := Tryd.prog) _ 50 9 5 _ _ Tryd.underlying50 Tryd.underlying5 Tryd.underlying9 hb2
      have HXl := Lib.hid ((Ext.refl w1).alloc (.cells #[.int .u8 3, .int .u8 5, .int .u8 0, .int .u8 ((f.toNat : Int) / 16777216), .int .u8 ((f.toNat : Int) / 65536 % 256), .int .u8 ((f.toNat : Int) / 256 % 256), .int .u8 ((f.toNat : Int) % 256)] 5))
      have HX1b := Lib.hid (HX1.out.trans HXl.out)
      clear hb2
      clear hL HE
      have HD := Lib.hid (fun W hW => FDecode_at A c l (by have := HSZ.out; omega) dv de hd W (HBS.out.ext hW))
      have HRDc := Lib.hid (fun W hW => RDecode_at A c l dv de hd W (HBS.out.ext hW))
      go_wp2_with fail
      refine (HD.out _ HX1b.out).mono ?_
      rintro _ w2 ⟨rfl, hx2⟩
      have HX2 := Lib.hid (HX1b.out.trans hx2)
      clear hx2
      go_wp2_with fail
      refine (HRDc.out _ HX2.out).mono ?_
      rintro _ w3 ⟨rfl, hx3⟩
      have HX3 := Lib.hid (HX2.out.trans hx3)
      clear hx3
      go_wp2_with fail
      refine (New_at A c l _ (HBS.out.ext HX3.out) (by have := HSZ.out; omega)).mono ?_
      rintro _ w4 ⟨g, rfl, hg, hr4, hx4⟩
      have HX4 := Lib.hid (HX3.out.trans hx4); have HR4 := Lib.hid hr4; have HG := Lib.hid hg
      clear hx4 hr4 hg
      go_wp2_with fail
      refine (FRead_at g l 0 rv re us HFR.out _ HR4.out).mono ?_
      rintro _ w5 ⟨rfl, hr5, hg5⟩
      have HR5 := Lib.hid hr5
      have HX5 := Lib.hid (show Ext w w5 from HX4.out.grown hg5 (fun j hj => by injection hj with hj; have := HG.out; have := HX3.out.size; omega))
      clear hr5 hg5
      go_wp2_with fail
      refine (RRead_at A c l 0 (by decide) rv re us HFR.out _ (HBS.out.ext HX5.out)).mono ?_
      rintro _ w6 ⟨rfl, hx6⟩
      have HX6 := Lib.hid (HX5.out.trans hx6); have HR6 := Lib.hid (HR5.out.ext hx6)
      clear hx6
      rw [Nat.zero_add]
      go_wp2_with fail
      refine (Left_at g l us _ (by have := HR6.out; rwa [Nat.zero_add] at this)).mono ?_
      rintro _ w7 ⟨rfl, hx7⟩
      have HX7 := Lib.hid (HX6.out.trans hx7)
      clear hx7
      have q5 : (((l.length - us : Nat) : Int) != (l.length : Int) - (us : Int)) = false := by rw [bne_eq_false_iff_eq]; have := HUS.out; omega
      have q6 : -9223372036854775808 ≤ (l.length : Int) - (us : Int) ∧ (l.length : Int) - (us : Int) ≤ 9223372036854775807 := by have := HUS.out; have := HSZ.out; omega
      go_wp2_with fail
      refine (FNoRead_at _ _ (.inl rfl)).mono ?_
      rintro _ w8 ⟨rfl, hx8⟩
      have HX8 := Lib.hid (HX7.out.trans hx8)
      clear hx8
      have hb9 := heap_alloc_new w8 (.cells #[.slice none 0 0, .int .i64 0, .bool false] 65)
      have hx9 := (Ext.refl w8).alloc (.cells #[.slice none 0 0, .int .i64 0, .bool false] 65)
      have HB9 := Lib.hid hb9; have HX9 := Lib.hid hx9
      clear hb9 hx9
      go_wp2_with fail
      refine (FNoRead_at _ _ (.inr ⟨_, rfl, HB9.out⟩)).mono ?_
      rintro _ w10 ⟨rfl, hx10⟩
      have HX10 := Lib.hid (HX8.out.trans (HX9.out.trans hx10))
      clear hx10
      go_wp2_with fail
      refine (FKnown_at _).mono ?_
      rintro _ wk ⟨rfl, hxk⟩
      have HXk := Lib.hid (HX10.out.trans hxk)
      clear hxk
      go_wp2_with fail
      go_ret
      exact ⟨rfl, HXk.out⟩
end Go.Proofs.YtigjecmhhjjenaaDoor.flagsDecodes
