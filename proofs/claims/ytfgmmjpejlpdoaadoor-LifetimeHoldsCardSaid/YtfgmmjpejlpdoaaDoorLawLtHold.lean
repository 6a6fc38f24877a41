/- LifetimeHolds: the law. (wip/tools/genlthold.py printed this.) -/
import Derived.Test.YtfgmmjpejlpdoaaDoorLtK2
import Derived.Test.YtfgmmjpejlpdoaaDoorLtHoldPure
namespace Go.Proofs.YtfgmmjpejlpdoaaDoor.lifetimeHolds
open Go Go.RowKit

theorem Valid_yes (a s e r : Int) (h : validB a s e r = true) (w : World) :
    Calls Tryd.prog 18 #[.agg #[.int .i64 a, .int .i64 s, .int .i64 e, .int .i64 r]] w fun en w' => en = .returned (.bool true) ∧ Ext w w' := h ▸ Valid_at a s e r w
theorem Usable_yes (a s e r now skew : Int) (h : usableF a s e r now skew = 0) (w : World) :
    Calls Tryd.prog 19 #[.agg #[.int .i64 a, .int .i64 s, .int .i64 e, .int .i64 r], .int .i64 now, .int .i64 skew] w fun en w' => en = .returned (.int .i64 0) ∧ Ext w w' := h ▸ Usable_at a s e r now skew w
theorem Renewable_yes (a s e r now skew : Int) (h : renewableB a s e r now skew = true) (w : World) :
    Calls Tryd.prog 20 #[.agg #[.int .i64 a, .int .i64 s, .int .i64 e, .int .i64 r], .int .i64 now, .int .i64 skew] w fun en w' => en = .returned (.bool true) ∧ Ext w w' := h ▸ Renewable_at a s e r now skew w
theorem boxesH (w : World) (a s e r f t n l m : Int) : ∃ we, ((w.alloc (.cells #[.int .i64 a, .int .i64 s, .int .i64 e, .int .i64 r] 27)).alloc (.cells #[.int .i64 f, .int .i64 t, .int .i64 n] 23)).alloc (.cells #[.int .i64 l, .int .i64 m] 25) = we ∧ Ext w we ∧ TB we w.heap.size a s e r ∧ WB we (w.heap.size + 1) f t n ∧ LB we (w.heap.size + 1 + 1) l m := by
  refine ⟨_, rfl, (((Ext.refl w).alloc _).alloc _).alloc _, TB.ext (heap_alloc_new w _) (((Ext.refl _).alloc _).alloc _), ?_, ?_⟩
  · have := heap_alloc_new (w.alloc (.cells #[.int .i64 a, .int .i64 s, .int .i64 e, .int .i64 r] 27)) (.cells #[.int .i64 f, .int .i64 t, .int .i64 n] 23)
    exact WB.ext (by simpa [WB] using this) ((Ext.refl _).alloc _)
  · have := heap_alloc_new ((w.alloc (.cells #[.int .i64 a, .int .i64 s, .int .i64 e, .int .i64 r] 27)).alloc (.cells #[.int .i64 f, .int .i64 t, .int .i64 n] 23)) (.cells #[.int .i64 l, .int .i64 m] 25)
    simpa [LB] using this

set_option maxRecDepth 100000 in
set_option maxHeartbeats 8000000 in
theorem law_walk (a s e r f t n l m now skew : Int) (w : World) (hp : Pow w) :
    Calls Tryd.prog 6 #[.agg #[.int .i64 a, .int .i64 s, .int .i64 e, .int .i64 r], .agg #[.int .i64 f, .int .i64 t, .int .i64 n], .agg #[.int .i64 l, .int .i64 m], .int .i64 now, .int .i64 skew] w fun en w' => en = .returned (.bool true) ∧ Ext w w' := by
  obtain ⟨A1, S1, E1, Q1, er1, hr1⟩ : ∃ A S E Q er, initF f t n l m now skew = (A, S, E, Q, er) := ⟨_, _, _, _, _, rfl⟩
  obtain ⟨A2, S2, E2, Q2, er2, hr2⟩ : ∃ A S E Q er, deriveF a s e r f t n l m now skew = (A, S, E, Q, er) := ⟨_, _, _, _, _, rfl⟩
  obtain ⟨A3, S3, E3, Q3, er3, hr3⟩ : ∃ A S E Q er, renewF a s e r now skew = (A, S, E, Q, er) := ⟨_, _, _, _, _, rfl⟩
  have H1 := Lib.hid (Initial_is f t n l m now skew A1 S1 E1 Q1 er1 hr1)
  have H2 := Lib.hid (Derive_is a s e r f t n l m now skew A2 S2 E2 Q2 er2 hr2)
  have H3 := Lib.hid (Renew_is a s e r now skew A3 S3 E3 Q3 er3 hr3)
  have HR1 := Lib.hid hr1; have HR2 := Lib.hid hr2; have HR3 := Lib.hid hr3
  clear hr1 hr2 hr3
  have HP := Lib.hid hp; clear hp
  obtain ⟨we, hwe, hxe, hTB, hWB, hLB⟩ := boxesH w a s e r f t n l m
  have HWE := Lib.hid hwe; have HXE := Lib.hid hxe; have HTB := Lib.hid hTB; have HWB := Lib.hid hWB; have HLB := Lib.hid hLB
  clear hwe hxe hTB hWB hLB
  go_enter Tryd.func6, Tryd.ntmps6
  go_wp2_with fail
  by_cases he1 : er1 = 0
  · subst he1
    obtain ⟨hv, hl1, ha, hq1, ht1, hr1⟩ := init_holds HR1.out
    obtain ⟨_, hb1, hb2, hb3, hb4, hb5, _⟩ := validB_bd hv
    obtain ⟨hm0, hm1, hm2, hm3⟩ := init_lim HR1.out
    have HV1 := Lib.hid (Valid_yes A1 S1 E1 Q1 hv)
    have ha1 : (A1 != now) = false := bne_eq_false_iff_eq.2 ha
    have HT1 := Lib.hid ht1
    clear hv ht1 ha
    by_cases htz : t = 0
    · have hz : (t != 0) = false := bne_eq_false_iff_eq.2 htz
      clear htz
      refine (H1.out _).mono ?_
      rintro _ wa1 ⟨rfl, hxa⟩
      rw [HWE.out] at hxa
      have HXa1 := Lib.hid (hxa.alloc (.cells #[.int .i64 A1, .int .i64 S1, .int .i64 E1, .int .i64 Q1] 27))
      clear hxa
      have HO1 := Lib.hid (show TB (wa1.alloc (.cells #[.int .i64 A1, .int .i64 S1, .int .i64 E1, .int .i64 Q1] 27)) wa1.heap.size A1 S1 E1 Q1 from heap_alloc_new wa1 _)
      obtain ⟨g0, g1, g2, g3⟩ := (HTB.out.ext HXa1.out).cells
      obtain ⟨q0, q1, q2⟩ := (HWB.out.ext HXa1.out).cells
      obtain ⟨p0, p1⟩ := (HLB.out.ext HXa1.out).cells
      obtain ⟨c0, c1, c2, c3⟩ := HO1.out.cells
      go_wp2_with fail
      refine (HV1.out _).mono ?_
      rintro _ wb1 ⟨rfl, hxb⟩
      have HXb1 := Lib.hid (HXa1.out.trans hxb); have HOb1 := Lib.hid (HO1.out.ext hxb)
      clear hxb c0 c1 c2 c3 g0 g1 g2 g3 q0 q1 q2 p0 p1
      obtain ⟨g0, g1, g2, g3⟩ := (HTB.out.ext HXb1.out).cells
      obtain ⟨q0, q1, q2⟩ := (HWB.out.ext HXb1.out).cells
      obtain ⟨p0, p1⟩ := (HLB.out.ext HXb1.out).cells
      obtain ⟨c0, c1, c2, c3⟩ := HOb1.out.cells
      go_wp2_with fail
      clear c0 c1 c2 c3
      by_cases he2 : er2 = 0
      · subst he2
        obtain ⟨hv, hl2, ha, hd2, hr2, hu⟩ := derive_holds HR2.out
        obtain ⟨_, hb6, hb7, hb8, hb9, hb10, _⟩ := validB_bd hv
        have ha2 : (A2 != a) = false := bne_eq_false_iff_eq.2 ha
        have HV2 := Lib.hid (Valid_yes A2 S2 E2 Q2 hv)
        have HU2 := Lib.hid (Usable_yes a s e r now skew hu)
        clear hv hu ha
        refine (H2.out _).mono ?_
        rintro _ wa2 ⟨rfl, hxa⟩
        have HXa2 := Lib.hid ((HXb1.out.trans hxa).alloc (.cells #[.int .i64 A2, .int .i64 S2, .int .i64 E2, .int .i64 Q2] 27))
        clear hxa g0 g1 g2 g3 q0 q1 q2 p0 p1
        have HO2 := Lib.hid (show TB (wa2.alloc (.cells #[.int .i64 A2, .int .i64 S2, .int .i64 E2, .int .i64 Q2] 27)) wa2.heap.size A2 S2 E2 Q2 from heap_alloc_new wa2 _)
        obtain ⟨g0, g1, g2, g3⟩ := (HTB.out.ext HXa2.out).cells
        obtain ⟨q0, q1, q2⟩ := (HWB.out.ext HXa2.out).cells
        obtain ⟨p0, p1⟩ := (HLB.out.ext HXa2.out).cells
        obtain ⟨c0, c1, c2, c3⟩ := HO2.out.cells
        go_wp2_with fail
        refine (HV2.out _).mono ?_
        rintro _ wb2 ⟨rfl, hxb⟩
        have HXb2 := Lib.hid (HXa2.out.trans hxb); have HOb2 := Lib.hid (HO2.out.ext hxb)
        clear hxb c0 c1 c2 c3 g0 g1 g2 g3 q0 q1 q2 p0 p1
        obtain ⟨g0, g1, g2, g3⟩ := (HTB.out.ext HXb2.out).cells
        obtain ⟨q0, q1, q2⟩ := (HWB.out.ext HXb2.out).cells
        obtain ⟨p0, p1⟩ := (HLB.out.ext HXb2.out).cells
        obtain ⟨c0, c1, c2, c3⟩ := HOb2.out.cells
        go_wp2_with fail
        refine (HU2.out _).mono ?_
        rintro _ wc2 ⟨rfl, hxc⟩
        have HXc2 := Lib.hid (HXb2.out.trans hxc)
        clear hxc c0 c1 c2 c3 g0 g1 g2 g3 q0 q1 q2 p0 p1
        obtain ⟨g0, g1, g2, g3⟩ := (HTB.out.ext HXc2.out).cells
        obtain ⟨q0, q1, q2⟩ := (HWB.out.ext HXc2.out).cells
        obtain ⟨p0, p1⟩ := (HLB.out.ext HXc2.out).cells
        go_wp2_with fail
        by_cases he3 : er3 = 0
        · subst he3
          obtain ⟨hv, hd3, hl3, ha, hq, hu⟩ := renew_holds HR3.out
          obtain ⟨_, hb11, hb12, hb13, hb14, hb15, _⟩ := validB_bd hv
          obtain ⟨hc0, hc1, hc2, hc3, hc4, hc5, _⟩ := renew_base HR3.out
          have ha3 : (A3 != a) = false := bne_eq_false_iff_eq.2 ha
          have hq3 : (Q3 != r) = false := bne_eq_false_iff_eq.2 hq
          have HV3 := Lib.hid (Valid_yes A3 S3 E3 Q3 hv)
          have HU3 := Lib.hid (Renewable_yes a s e r now skew hu)
          clear hv hu ha hq
          refine (H3.out _).mono ?_
          rintro _ wa3 ⟨rfl, hxa⟩
          have HXa3 := Lib.hid ((HXc2.out.trans hxa).alloc (.cells #[.int .i64 A3, .int .i64 S3, .int .i64 E3, .int .i64 Q3] 27))
          clear hxa g0 g1 g2 g3 q0 q1 q2 p0 p1
          have HO3 := Lib.hid (show TB (wa3.alloc (.cells #[.int .i64 A3, .int .i64 S3, .int .i64 E3, .int .i64 Q3] 27)) wa3.heap.size A3 S3 E3 Q3 from heap_alloc_new wa3 _)
          obtain ⟨g0, g1, g2, g3⟩ := (HTB.out.ext HXa3.out).cells
          obtain ⟨q0, q1, q2⟩ := (HWB.out.ext HXa3.out).cells
          obtain ⟨p0, p1⟩ := (HLB.out.ext HXa3.out).cells
          obtain ⟨c0, c1, c2, c3⟩ := HO3.out.cells
          go_wp2_with fail
          refine (HV3.out _).mono ?_
          rintro _ wb3 ⟨rfl, hxb⟩
          have HXb3 := Lib.hid (HXa3.out.trans hxb); have HOb3 := Lib.hid (HO3.out.ext hxb)
          clear hxb c0 c1 c2 c3 g0 g1 g2 g3 q0 q1 q2 p0 p1
          obtain ⟨g0, g1, g2, g3⟩ := (HTB.out.ext HXb3.out).cells
          obtain ⟨q0, q1, q2⟩ := (HWB.out.ext HXb3.out).cells
          obtain ⟨p0, p1⟩ := (HLB.out.ext HXb3.out).cells
          obtain ⟨c0, c1, c2, c3⟩ := HOb3.out.cells
          go_wp2_with fail
          refine (HU3.out _).mono ?_
          rintro _ wc3 ⟨rfl, hxc⟩
          have HXc3 := Lib.hid (HXb3.out.trans hxc)
          clear hxc c0 c1 c2 c3 g0 g1 g2 g3 q0 q1 q2 p0 p1
          obtain ⟨g0, g1, g2, g3⟩ := (HTB.out.ext HXc3.out).cells
          obtain ⟨q0, q1, q2⟩ := (HWB.out.ext HXc3.out).cells
          obtain ⟨p0, p1⟩ := (HLB.out.ext HXc3.out).cells
          go_wp2_with fail
          refine (known_at _ (HP.out.ext (HXE.out.trans HXc3.out))).mono ?_
          rintro _ w9 ⟨rfl, hx9⟩
          have HX9 := Lib.hid ((HXE.out.trans HXc3.out).trans hx9)
          clear hx9
          go_wp2
          go_ret
          exact ⟨rfl, HX9.out⟩
        · have hn3 : (er3 == 0) = false := beq_eq_false_iff_ne.2 he3
          clear he3
          refine (H3.out _).mono ?_
          rintro _ wa3 ⟨rfl, hxa⟩
          have HXa3 := Lib.hid ((HXc2.out.trans hxa).alloc (.cells #[.int .i64 A3, .int .i64 S3, .int .i64 E3, .int .i64 Q3] 27))
          clear hxa g0 g1 g2 g3 q0 q1 q2 p0 p1
          have HO3 := Lib.hid (show TB (wa3.alloc (.cells #[.int .i64 A3, .int .i64 S3, .int .i64 E3, .int .i64 Q3] 27)) wa3.heap.size A3 S3 E3 Q3 from heap_alloc_new wa3 _)
          obtain ⟨g0, g1, g2, g3⟩ := (HTB.out.ext HXa3.out).cells
          obtain ⟨q0, q1, q2⟩ := (HWB.out.ext HXa3.out).cells
          obtain ⟨p0, p1⟩ := (HLB.out.ext HXa3.out).cells
          go_wp2_with fail
          refine (known_at _ (HP.out.ext (HXE.out.trans HXa3.out))).mono ?_
          rintro _ w9 ⟨rfl, hx9⟩
          have HX9 := Lib.hid ((HXE.out.trans HXa3.out).trans hx9)
          clear hx9
          go_wp2
          go_ret
          exact ⟨rfl, HX9.out⟩
      · have hn2 : (er2 == 0) = false := beq_eq_false_iff_ne.2 he2
        clear he2
        refine (H2.out _).mono ?_
        rintro _ wa2 ⟨rfl, hxa⟩
        have HXa2 := Lib.hid ((HXb1.out.trans hxa).alloc (.cells #[.int .i64 A2, .int .i64 S2, .int .i64 E2, .int .i64 Q2] 27))
        clear hxa g0 g1 g2 g3 q0 q1 q2 p0 p1
        have HO2 := Lib.hid (show TB (wa2.alloc (.cells #[.int .i64 A2, .int .i64 S2, .int .i64 E2, .int .i64 Q2] 27)) wa2.heap.size A2 S2 E2 Q2 from heap_alloc_new wa2 _)
        obtain ⟨g0, g1, g2, g3⟩ := (HTB.out.ext HXa2.out).cells
        obtain ⟨q0, q1, q2⟩ := (HWB.out.ext HXa2.out).cells
        obtain ⟨p0, p1⟩ := (HLB.out.ext HXa2.out).cells
        go_wp2_with fail
        by_cases he3 : er3 = 0
        · subst he3
          obtain ⟨hv, hd3, hl3, ha, hq, hu⟩ := renew_holds HR3.out
          obtain ⟨_, hb11, hb12, hb13, hb14, hb15, _⟩ := validB_bd hv
          obtain ⟨hc0, hc1, hc2, hc3, hc4, hc5, _⟩ := renew_base HR3.out
          have ha3 : (A3 != a) = false := bne_eq_false_iff_eq.2 ha
          have hq3 : (Q3 != r) = false := bne_eq_false_iff_eq.2 hq
          have HV3 := Lib.hid (Valid_yes A3 S3 E3 Q3 hv)
          have HU3 := Lib.hid (Renewable_yes a s e r now skew hu)
          clear hv hu ha hq
          refine (H3.out _).mono ?_
          rintro _ wa3 ⟨rfl, hxa⟩
          have HXa3 := Lib.hid ((HXa2.out.trans hxa).alloc (.cells #[.int .i64 A3, .int .i64 S3, .int .i64 E3, .int .i64 Q3] 27))
          clear hxa g0 g1 g2 g3 q0 q1 q2 p0 p1
          have HO3 := Lib.hid (show TB (wa3.alloc (.cells #[.int .i64 A3, .int .i64 S3, .int .i64 E3, .int .i64 Q3] 27)) wa3.heap.size A3 S3 E3 Q3 from heap_alloc_new wa3 _)
          obtain ⟨g0, g1, g2, g3⟩ := (HTB.out.ext HXa3.out).cells
          obtain ⟨q0, q1, q2⟩ := (HWB.out.ext HXa3.out).cells
          obtain ⟨p0, p1⟩ := (HLB.out.ext HXa3.out).cells
          obtain ⟨c0, c1, c2, c3⟩ := HO3.out.cells
          go_wp2_with fail
          refine (HV3.out _).mono ?_
          rintro _ wb3 ⟨rfl, hxb⟩
          have HXb3 := Lib.hid (HXa3.out.trans hxb); have HOb3 := Lib.hid (HO3.out.ext hxb)
          clear hxb c0 c1 c2 c3 g0 g1 g2 g3 q0 q1 q2 p0 p1
          obtain ⟨g0, g1, g2, g3⟩ := (HTB.out.ext HXb3.out).cells
          obtain ⟨q0, q1, q2⟩ := (HWB.out.ext HXb3.out).cells
          obtain ⟨p0, p1⟩ := (HLB.out.ext HXb3.out).cells
          obtain ⟨c0, c1, c2, c3⟩ := HOb3.out.cells
          go_wp2_with fail
          refine (HU3.out _).mono ?_
          rintro _ wc3 ⟨rfl, hxc⟩
          have HXc3 := Lib.hid (HXb3.out.trans hxc)
          clear hxc c0 c1 c2 c3 g0 g1 g2 g3 q0 q1 q2 p0 p1
          obtain ⟨g0, g1, g2, g3⟩ := (HTB.out.ext HXc3.out).cells
          obtain ⟨q0, q1, q2⟩ := (HWB.out.ext HXc3.out).cells
          obtain ⟨p0, p1⟩ := (HLB.out.ext HXc3.out).cells
          go_wp2_with fail
          refine (known_at _ (HP.out.ext (HXE.out.trans HXc3.out))).mono ?_
          rintro _ w9 ⟨rfl, hx9⟩
          have HX9 := Lib.hid ((HXE.out.trans HXc3.out).trans hx9)
          clear hx9
          go_wp2
          go_ret
          exact ⟨rfl, HX9.out⟩
        · have hn3 : (er3 == 0) = false := beq_eq_false_iff_ne.2 he3
          clear he3
          refine (H3.out _).mono ?_
          rintro _ wa3 ⟨rfl, hxa⟩
          have HXa3 := Lib.hid ((HXa2.out.trans hxa).alloc (.cells #[.int .i64 A3, .int .i64 S3, .int .i64 E3, .int .i64 Q3] 27))
          clear hxa g0 g1 g2 g3 q0 q1 q2 p0 p1
          have HO3 := Lib.hid (show TB (wa3.alloc (.cells #[.int .i64 A3, .int .i64 S3, .int .i64 E3, .int .i64 Q3] 27)) wa3.heap.size A3 S3 E3 Q3 from heap_alloc_new wa3 _)
          obtain ⟨g0, g1, g2, g3⟩ := (HTB.out.ext HXa3.out).cells
          obtain ⟨q0, q1, q2⟩ := (HWB.out.ext HXa3.out).cells
          obtain ⟨p0, p1⟩ := (HLB.out.ext HXa3.out).cells
          go_wp2_with fail
          refine (known_at _ (HP.out.ext (HXE.out.trans HXa3.out))).mono ?_
          rintro _ w9 ⟨rfl, hx9⟩
          have HX9 := Lib.hid ((HXE.out.trans HXa3.out).trans hx9)
          clear hx9
          go_wp2
          go_ret
          exact ⟨rfl, HX9.out⟩
    · have hz : (t != 0) = true := bne_iff_ne.2 htz
      have ht2 := HT1.out htz
      clear htz
      refine (H1.out _).mono ?_
      rintro _ wa1 ⟨rfl, hxa⟩
      rw [HWE.out] at hxa
      have HXa1 := Lib.hid (hxa.alloc (.cells #[.int .i64 A1, .int .i64 S1, .int .i64 E1, .int .i64 Q1] 27))
      clear hxa
      have HO1 := Lib.hid (show TB (wa1.alloc (.cells #[.int .i64 A1, .int .i64 S1, .int .i64 E1, .int .i64 Q1] 27)) wa1.heap.size A1 S1 E1 Q1 from heap_alloc_new wa1 _)
      obtain ⟨g0, g1, g2, g3⟩ := (HTB.out.ext HXa1.out).cells
      obtain ⟨q0, q1, q2⟩ := (HWB.out.ext HXa1.out).cells
      obtain ⟨p0, p1⟩ := (HLB.out.ext HXa1.out).cells
      obtain ⟨c0, c1, c2, c3⟩ := HO1.out.cells
      go_wp2_with fail
      refine (HV1.out _).mono ?_
      rintro _ wb1 ⟨rfl, hxb⟩
      have HXb1 := Lib.hid (HXa1.out.trans hxb); have HOb1 := Lib.hid (HO1.out.ext hxb)
      clear hxb c0 c1 c2 c3 g0 g1 g2 g3 q0 q1 q2 p0 p1
      obtain ⟨g0, g1, g2, g3⟩ := (HTB.out.ext HXb1.out).cells
      obtain ⟨q0, q1, q2⟩ := (HWB.out.ext HXb1.out).cells
      obtain ⟨p0, p1⟩ := (HLB.out.ext HXb1.out).cells
      obtain ⟨c0, c1, c2, c3⟩ := HOb1.out.cells
      go_wp2_with fail
      clear c0 c1 c2 c3
      by_cases he2 : er2 = 0
      · subst he2
        obtain ⟨hv, hl2, ha, hd2, hr2, hu⟩ := derive_holds HR2.out
        obtain ⟨_, hb6, hb7, hb8, hb9, hb10, _⟩ := validB_bd hv
        have ha2 : (A2 != a) = false := bne_eq_false_iff_eq.2 ha
        have HV2 := Lib.hid (Valid_yes A2 S2 E2 Q2 hv)
        have HU2 := Lib.hid (Usable_yes a s e r now skew hu)
        clear hv hu ha
        refine (H2.out _).mono ?_
        rintro _ wa2 ⟨rfl, hxa⟩
        have HXa2 := Lib.hid ((HXb1.out.trans hxa).alloc (.cells #[.int .i64 A2, .int .i64 S2, .int .i64 E2, .int .i64 Q2] 27))
        clear hxa g0 g1 g2 g3 q0 q1 q2 p0 p1
        have HO2 := Lib.hid (show TB (wa2.alloc (.cells #[.int .i64 A2, .int .i64 S2, .int .i64 E2, .int .i64 Q2] 27)) wa2.heap.size A2 S2 E2 Q2 from heap_alloc_new wa2 _)
        obtain ⟨g0, g1, g2, g3⟩ := (HTB.out.ext HXa2.out).cells
        obtain ⟨q0, q1, q2⟩ := (HWB.out.ext HXa2.out).cells
        obtain ⟨p0, p1⟩ := (HLB.out.ext HXa2.out).cells
        obtain ⟨c0, c1, c2, c3⟩ := HO2.out.cells
        go_wp2_with fail
        refine (HV2.out _).mono ?_
        rintro _ wb2 ⟨rfl, hxb⟩
        have HXb2 := Lib.hid (HXa2.out.trans hxb); have HOb2 := Lib.hid (HO2.out.ext hxb)
        clear hxb c0 c1 c2 c3 g0 g1 g2 g3 q0 q1 q2 p0 p1
        obtain ⟨g0, g1, g2, g3⟩ := (HTB.out.ext HXb2.out).cells
        obtain ⟨q0, q1, q2⟩ := (HWB.out.ext HXb2.out).cells
        obtain ⟨p0, p1⟩ := (HLB.out.ext HXb2.out).cells
        obtain ⟨c0, c1, c2, c3⟩ := HOb2.out.cells
        go_wp2_with fail
        refine (HU2.out _).mono ?_
        rintro _ wc2 ⟨rfl, hxc⟩
        have HXc2 := Lib.hid (HXb2.out.trans hxc)
        clear hxc c0 c1 c2 c3 g0 g1 g2 g3 q0 q1 q2 p0 p1
        obtain ⟨g0, g1, g2, g3⟩ := (HTB.out.ext HXc2.out).cells
        obtain ⟨q0, q1, q2⟩ := (HWB.out.ext HXc2.out).cells
        obtain ⟨p0, p1⟩ := (HLB.out.ext HXc2.out).cells
        go_wp2_with fail
        by_cases he3 : er3 = 0
        · subst he3
          obtain ⟨hv, hd3, hl3, ha, hq, hu⟩ := renew_holds HR3.out
          obtain ⟨_, hb11, hb12, hb13, hb14, hb15, _⟩ := validB_bd hv
          obtain ⟨hc0, hc1, hc2, hc3, hc4, hc5, _⟩ := renew_base HR3.out
          have ha3 : (A3 != a) = false := bne_eq_false_iff_eq.2 ha
          have hq3 : (Q3 != r) = false := bne_eq_false_iff_eq.2 hq
          have HV3 := Lib.hid (Valid_yes A3 S3 E3 Q3 hv)
          have HU3 := Lib.hid (Renewable_yes a s e r now skew hu)
          clear hv hu ha hq
          refine (H3.out _).mono ?_
          rintro _ wa3 ⟨rfl, hxa⟩
          have HXa3 := Lib.hid ((HXc2.out.trans hxa).alloc (.cells #[.int .i64 A3, .int .i64 S3, .int .i64 E3, .int .i64 Q3] 27))
          clear hxa g0 g1 g2 g3 q0 q1 q2 p0 p1
          have HO3 := Lib.hid (show TB (wa3.alloc (.cells #[.int .i64 A3, .int .i64 S3, .int .i64 E3, .int .i64 Q3] 27)) wa3.heap.size A3 S3 E3 Q3 from heap_alloc_new wa3 _)
          obtain ⟨g0, g1, g2, g3⟩ := (HTB.out.ext HXa3.out).cells
          obtain ⟨q0, q1, q2⟩ := (HWB.out.ext HXa3.out).cells
          obtain ⟨p0, p1⟩ := (HLB.out.ext HXa3.out).cells
          obtain ⟨c0, c1, c2, c3⟩ := HO3.out.cells
          go_wp2_with fail
          refine (HV3.out _).mono ?_
          rintro _ wb3 ⟨rfl, hxb⟩
          have HXb3 := Lib.hid (HXa3.out.trans hxb); have HOb3 := Lib.hid (HO3.out.ext hxb)
          clear hxb c0 c1 c2 c3 g0 g1 g2 g3 q0 q1 q2 p0 p1
          obtain ⟨g0, g1, g2, g3⟩ := (HTB.out.ext HXb3.out).cells
          obtain ⟨q0, q1, q2⟩ := (HWB.out.ext HXb3.out).cells
          obtain ⟨p0, p1⟩ := (HLB.out.ext HXb3.out).cells
          obtain ⟨c0, c1, c2, c3⟩ := HOb3.out.cells
          go_wp2_with fail
          refine (HU3.out _).mono ?_
          rintro _ wc3 ⟨rfl, hxc⟩
          have HXc3 := Lib.hid (HXb3.out.trans hxc)
          clear hxc c0 c1 c2 c3 g0 g1 g2 g3 q0 q1 q2 p0 p1
          obtain ⟨g0, g1, g2, g3⟩ := (HTB.out.ext HXc3.out).cells
          obtain ⟨q0, q1, q2⟩ := (HWB.out.ext HXc3.out).cells
          obtain ⟨p0, p1⟩ := (HLB.out.ext HXc3.out).cells
          go_wp2_with fail
          refine (known_at _ (HP.out.ext (HXE.out.trans HXc3.out))).mono ?_
          rintro _ w9 ⟨rfl, hx9⟩
          have HX9 := Lib.hid ((HXE.out.trans HXc3.out).trans hx9)
          clear hx9
          go_wp2
          go_ret
          exact ⟨rfl, HX9.out⟩
        · have hn3 : (er3 == 0) = false := beq_eq_false_iff_ne.2 he3
          clear he3
          refine (H3.out _).mono ?_
          rintro _ wa3 ⟨rfl, hxa⟩
          have HXa3 := Lib.hid ((HXc2.out.trans hxa).alloc (.cells #[.int .i64 A3, .int .i64 S3, .int .i64 E3, .int .i64 Q3] 27))
          clear hxa g0 g1 g2 g3 q0 q1 q2 p0 p1
          have HO3 := Lib.hid (show TB (wa3.alloc (.cells #[.int .i64 A3, .int .i64 S3, .int .i64 E3, .int .i64 Q3] 27)) wa3.heap.size A3 S3 E3 Q3 from heap_alloc_new wa3 _)
          obtain ⟨g0, g1, g2, g3⟩ := (HTB.out.ext HXa3.out).cells
          obtain ⟨q0, q1, q2⟩ := (HWB.out.ext HXa3.out).cells
          obtain ⟨p0, p1⟩ := (HLB.out.ext HXa3.out).cells
          go_wp2_with fail
          refine (known_at _ (HP.out.ext (HXE.out.trans HXa3.out))).mono ?_
          rintro _ w9 ⟨rfl, hx9⟩
          have HX9 := Lib.hid ((HXE.out.trans HXa3.out).trans hx9)
          clear hx9
          go_wp2
          go_ret
          exact ⟨rfl, HX9.out⟩
      · have hn2 : (er2 == 0) = false := beq_eq_false_iff_ne.2 he2
        clear he2
        refine (H2.out _).mono ?_
        rintro _ wa2 ⟨rfl, hxa⟩
        have HXa2 := Lib.hid ((HXb1.out.trans hxa).alloc (.cells #[.int .i64 A2, .int .i64 S2, .int .i64 E2, .int .i64 Q2] 27))
        clear hxa g0 g1 g2 g3 q0 q1 q2 p0 p1
        have HO2 := Lib.hid (show TB (wa2.alloc (.cells #[.int .i64 A2, .int .i64 S2, .int .i64 E2, .int .i64 Q2] 27)) wa2.heap.size A2 S2 E2 Q2 from heap_alloc_new wa2 _)
        obtain ⟨g0, g1, g2, g3⟩ := (HTB.out.ext HXa2.out).cells
        obtain ⟨q0, q1, q2⟩ := (HWB.out.ext HXa2.out).cells
        obtain ⟨p0, p1⟩ := (HLB.out.ext HXa2.out).cells
        go_wp2_with fail
        by_cases he3 : er3 = 0
        · subst he3
          obtain ⟨hv, hd3, hl3, ha, hq, hu⟩ := renew_holds HR3.out
          obtain ⟨_, hb11, hb12, hb13, hb14, hb15, _⟩ := validB_bd hv
          obtain ⟨hc0, hc1, hc2, hc3, hc4, hc5, _⟩ := renew_base HR3.out
          have ha3 : (A3 != a) = false := bne_eq_false_iff_eq.2 ha
          have hq3 : (Q3 != r) = false := bne_eq_false_iff_eq.2 hq
          have HV3 := Lib.hid (Valid_yes A3 S3 E3 Q3 hv)
          have HU3 := Lib.hid (Renewable_yes a s e r now skew hu)
          clear hv hu ha hq
          refine (H3.out _).mono ?_
          rintro _ wa3 ⟨rfl, hxa⟩
          have HXa3 := Lib.hid ((HXa2.out.trans hxa).alloc (.cells #[.int .i64 A3, .int .i64 S3, .int .i64 E3, .int .i64 Q3] 27))
          clear hxa g0 g1 g2 g3 q0 q1 q2 p0 p1
          have HO3 := Lib.hid (show TB (wa3.alloc (.cells #[.int .i64 A3, .int .i64 S3, .int .i64 E3, .int .i64 Q3] 27)) wa3.heap.size A3 S3 E3 Q3 from heap_alloc_new wa3 _)
          obtain ⟨g0, g1, g2, g3⟩ := (HTB.out.ext HXa3.out).cells
          obtain ⟨q0, q1, q2⟩ := (HWB.out.ext HXa3.out).cells
          obtain ⟨p0, p1⟩ := (HLB.out.ext HXa3.out).cells
          obtain ⟨c0, c1, c2, c3⟩ := HO3.out.cells
          go_wp2_with fail
          refine (HV3.out _).mono ?_
          rintro _ wb3 ⟨rfl, hxb⟩
          have HXb3 := Lib.hid (HXa3.out.trans hxb); have HOb3 := Lib.hid (HO3.out.ext hxb)
          clear hxb c0 c1 c2 c3 g0 g1 g2 g3 q0 q1 q2 p0 p1
          obtain ⟨g0, g1, g2, g3⟩ := (HTB.out.ext HXb3.out).cells
          obtain ⟨q0, q1, q2⟩ := (HWB.out.ext HXb3.out).cells
          obtain ⟨p0, p1⟩ := (HLB.out.ext HXb3.out).cells
          obtain ⟨c0, c1, c2, c3⟩ := HOb3.out.cells
          go_wp2_with fail
          refine (HU3.out _).mono ?_
          rintro _ wc3 ⟨rfl, hxc⟩
          have HXc3 := Lib.hid (HXb3.out.trans hxc)
          clear hxc c0 c1 c2 c3 g0 g1 g2 g3 q0 q1 q2 p0 p1
          obtain ⟨g0, g1, g2, g3⟩ := (HTB.out.ext HXc3.out).cells
          obtain ⟨q0, q1, q2⟩ := (HWB.out.ext HXc3.out).cells
          obtain ⟨p0, p1⟩ := (HLB.out.ext HXc3.out).cells
          go_wp2_with fail
          refine (known_at _ (HP.out.ext (HXE.out.trans HXc3.out))).mono ?_
          rintro _ w9 ⟨rfl, hx9⟩
          have HX9 := Lib.hid ((HXE.out.trans HXc3.out).trans hx9)
          clear hx9
          go_wp2
          go_ret
          exact ⟨rfl, HX9.out⟩
        · have hn3 : (er3 == 0) = false := beq_eq_false_iff_ne.2 he3
          clear he3
          refine (H3.out _).mono ?_
          rintro _ wa3 ⟨rfl, hxa⟩
          have HXa3 := Lib.hid ((HXa2.out.trans hxa).alloc (.cells #[.int .i64 A3, .int .i64 S3, .int .i64 E3, .int .i64 Q3] 27))
          clear hxa g0 g1 g2 g3 q0 q1 q2 p0 p1
          have HO3 := Lib.hid (show TB (wa3.alloc (.cells #[.int .i64 A3, .int .i64 S3, .int .i64 E3, .int .i64 Q3] 27)) wa3.heap.size A3 S3 E3 Q3 from heap_alloc_new wa3 _)
          obtain ⟨g0, g1, g2, g3⟩ := (HTB.out.ext HXa3.out).cells
          obtain ⟨q0, q1, q2⟩ := (HWB.out.ext HXa3.out).cells
          obtain ⟨p0, p1⟩ := (HLB.out.ext HXa3.out).cells
          go_wp2_with fail
          refine (known_at _ (HP.out.ext (HXE.out.trans HXa3.out))).mono ?_
          rintro _ w9 ⟨rfl, hx9⟩
          have HX9 := Lib.hid ((HXE.out.trans HXa3.out).trans hx9)
          clear hx9
          go_wp2
          go_ret
          exact ⟨rfl, HX9.out⟩
  · have hn1 : (er1 == 0) = false := beq_eq_false_iff_ne.2 he1
    clear he1
    refine (H1.out _).mono ?_
    rintro _ wa1 ⟨rfl, hxa⟩
    rw [HWE.out] at hxa
    have HXa1 := Lib.hid (hxa.alloc (.cells #[.int .i64 A1, .int .i64 S1, .int .i64 E1, .int .i64 Q1] 27))
    clear hxa
    have HO1 := Lib.hid (show TB (wa1.alloc (.cells #[.int .i64 A1, .int .i64 S1, .int .i64 E1, .int .i64 Q1] 27)) wa1.heap.size A1 S1 E1 Q1 from heap_alloc_new wa1 _)
    obtain ⟨g0, g1, g2, g3⟩ := (HTB.out.ext HXa1.out).cells
    obtain ⟨q0, q1, q2⟩ := (HWB.out.ext HXa1.out).cells
    obtain ⟨p0, p1⟩ := (HLB.out.ext HXa1.out).cells
    go_wp2_with fail
    by_cases he2 : er2 = 0
    · subst he2
      obtain ⟨hv, hl2, ha, hd2, hr2, hu⟩ := derive_holds HR2.out
      obtain ⟨_, hb6, hb7, hb8, hb9, hb10, _⟩ := validB_bd hv
      have ha2 : (A2 != a) = false := bne_eq_false_iff_eq.2 ha
      have HV2 := Lib.hid (Valid_yes A2 S2 E2 Q2 hv)
      have HU2 := Lib.hid (Usable_yes a s e r now skew hu)
      clear hv hu ha
      refine (H2.out _).mono ?_
      rintro _ wa2 ⟨rfl, hxa⟩
      have HXa2 := Lib.hid ((HXa1.out.trans hxa).alloc (.cells #[.int .i64 A2, .int .i64 S2, .int .i64 E2, .int .i64 Q2] 27))
      clear hxa g0 g1 g2 g3 q0 q1 q2 p0 p1
      have HO2 := Lib.hid (show TB (wa2.alloc (.cells #[.int .i64 A2, .int .i64 S2, .int .i64 E2, .int .i64 Q2] 27)) wa2.heap.size A2 S2 E2 Q2 from heap_alloc_new wa2 _)
      obtain ⟨g0, g1, g2, g3⟩ := (HTB.out.ext HXa2.out).cells
      obtain ⟨q0, q1, q2⟩ := (HWB.out.ext HXa2.out).cells
      obtain ⟨p0, p1⟩ := (HLB.out.ext HXa2.out).cells
      obtain ⟨c0, c1, c2, c3⟩ := HO2.out.cells
      go_wp2_with fail
      refine (HV2.out _).mono ?_
      rintro _ wb2 ⟨rfl, hxb⟩
      have HXb2 := Lib.hid (HXa2.out.trans hxb); have HOb2 := Lib.hid (HO2.out.ext hxb)
      clear hxb c0 c1 c2 c3 g0 g1 g2 g3 q0 q1 q2 p0 p1
      obtain ⟨g0, g1, g2, g3⟩ := (HTB.out.ext HXb2.out).cells
      obtain ⟨q0, q1, q2⟩ := (HWB.out.ext HXb2.out).cells
      obtain ⟨p0, p1⟩ := (HLB.out.ext HXb2.out).cells
      obtain ⟨c0, c1, c2, c3⟩ := HOb2.out.cells
      go_wp2_with fail
      refine (HU2.out _).mono ?_
      rintro _ wc2 ⟨rfl, hxc⟩
      have HXc2 := Lib.hid (HXb2.out.trans hxc)
      clear hxc c0 c1 c2 c3 g0 g1 g2 g3 q0 q1 q2 p0 p1
      obtain ⟨g0, g1, g2, g3⟩ := (HTB.out.ext HXc2.out).cells
      obtain ⟨q0, q1, q2⟩ := (HWB.out.ext HXc2.out).cells
      obtain ⟨p0, p1⟩ := (HLB.out.ext HXc2.out).cells
      go_wp2_with fail
      by_cases he3 : er3 = 0
      · subst he3
        obtain ⟨hv, hd3, hl3, ha, hq, hu⟩ := renew_holds HR3.out
        obtain ⟨_, hb11, hb12, hb13, hb14, hb15, _⟩ := validB_bd hv
        obtain ⟨hc0, hc1, hc2, hc3, hc4, hc5, _⟩ := renew_base HR3.out
        have ha3 : (A3 != a) = false := bne_eq_false_iff_eq.2 ha
        have hq3 : (Q3 != r) = false := bne_eq_false_iff_eq.2 hq
        have HV3 := Lib.hid (Valid_yes A3 S3 E3 Q3 hv)
        have HU3 := Lib.hid (Renewable_yes a s e r now skew hu)
        clear hv hu ha hq
        refine (H3.out _).mono ?_
        rintro _ wa3 ⟨rfl, hxa⟩
        have HXa3 := Lib.hid ((HXc2.out.trans hxa).alloc (.cells #[.int .i64 A3, .int .i64 S3, .int .i64 E3, .int .i64 Q3] 27))
        clear hxa g0 g1 g2 g3 q0 q1 q2 p0 p1
        have HO3 := Lib.hid (show TB (wa3.alloc (.cells #[.int .i64 A3, .int .i64 S3, .int .i64 E3, .int .i64 Q3] 27)) wa3.heap.size A3 S3 E3 Q3 from heap_alloc_new wa3 _)
        obtain ⟨g0, g1, g2, g3⟩ := (HTB.out.ext HXa3.out).cells
        obtain ⟨q0, q1, q2⟩ := (HWB.out.ext HXa3.out).cells
        obtain ⟨p0, p1⟩ := (HLB.out.ext HXa3.out).cells
        obtain ⟨c0, c1, c2, c3⟩ := HO3.out.cells
        go_wp2_with fail
        refine (HV3.out _).mono ?_
        rintro _ wb3 ⟨rfl, hxb⟩
        have HXb3 := Lib.hid (HXa3.out.trans hxb); have HOb3 := Lib.hid (HO3.out.ext hxb)
        clear hxb c0 c1 c2 c3 g0 g1 g2 g3 q0 q1 q2 p0 p1
        obtain ⟨g0, g1, g2, g3⟩ := (HTB.out.ext HXb3.out).cells
        obtain ⟨q0, q1, q2⟩ := (HWB.out.ext HXb3.out).cells
        obtain ⟨p0, p1⟩ := (HLB.out.ext HXb3.out).cells
        obtain ⟨c0, c1, c2, c3⟩ := HOb3.out.cells
        go_wp2_with fail
        refine (HU3.out _).mono ?_
        rintro _ wc3 ⟨rfl, hxc⟩
        have HXc3 := Lib.hid (HXb3.out.trans hxc)
        clear hxc c0 c1 c2 c3 g0 g1 g2 g3 q0 q1 q2 p0 p1
        obtain ⟨g0, g1, g2, g3⟩ := (HTB.out.ext HXc3.out).cells
        obtain ⟨q0, q1, q2⟩ := (HWB.out.ext HXc3.out).cells
        obtain ⟨p0, p1⟩ := (HLB.out.ext HXc3.out).cells
        go_wp2_with fail
        refine (known_at _ (HP.out.ext (HXE.out.trans HXc3.out))).mono ?_
        rintro _ w9 ⟨rfl, hx9⟩
        have HX9 := Lib.hid ((HXE.out.trans HXc3.out).trans hx9)
        clear hx9
        go_wp2
        go_ret
        exact ⟨rfl, HX9.out⟩
      · have hn3 : (er3 == 0) = false := beq_eq_false_iff_ne.2 he3
        clear he3
        refine (H3.out _).mono ?_
        rintro _ wa3 ⟨rfl, hxa⟩
        have HXa3 := Lib.hid ((HXc2.out.trans hxa).alloc (.cells #[.int .i64 A3, .int .i64 S3, .int .i64 E3, .int .i64 Q3] 27))
        clear hxa g0 g1 g2 g3 q0 q1 q2 p0 p1
        have HO3 := Lib.hid (show TB (wa3.alloc (.cells #[.int .i64 A3, .int .i64 S3, .int .i64 E3, .int .i64 Q3] 27)) wa3.heap.size A3 S3 E3 Q3 from heap_alloc_new wa3 _)
        obtain ⟨g0, g1, g2, g3⟩ := (HTB.out.ext HXa3.out).cells
        obtain ⟨q0, q1, q2⟩ := (HWB.out.ext HXa3.out).cells
        obtain ⟨p0, p1⟩ := (HLB.out.ext HXa3.out).cells
        go_wp2_with fail
        refine (known_at _ (HP.out.ext (HXE.out.trans HXa3.out))).mono ?_
        rintro _ w9 ⟨rfl, hx9⟩
        have HX9 := Lib.hid ((HXE.out.trans HXa3.out).trans hx9)
        clear hx9
        go_wp2
        go_ret
        exact ⟨rfl, HX9.out⟩
    · have hn2 : (er2 == 0) = false := beq_eq_false_iff_ne.2 he2
      clear he2
      refine (H2.out _).mono ?_
      rintro _ wa2 ⟨rfl, hxa⟩
      have HXa2 := Lib.hid ((HXa1.out.trans hxa).alloc (.cells #[.int .i64 A2, .int .i64 S2, .int .i64 E2, .int .i64 Q2] 27))
      clear hxa g0 g1 g2 g3 q0 q1 q2 p0 p1
      have HO2 := Lib.hid (show TB (wa2.alloc (.cells #[.int .i64 A2, .int .i64 S2, .int .i64 E2, .int .i64 Q2] 27)) wa2.heap.size A2 S2 E2 Q2 from heap_alloc_new wa2 _)
      obtain ⟨g0, g1, g2, g3⟩ := (HTB.out.ext HXa2.out).cells
      obtain ⟨q0, q1, q2⟩ := (HWB.out.ext HXa2.out).cells
      obtain ⟨p0, p1⟩ := (HLB.out.ext HXa2.out).cells
      go_wp2_with fail
      by_cases he3 : er3 = 0
      · subst he3
        obtain ⟨hv, hd3, hl3, ha, hq, hu⟩ := renew_holds HR3.out
        obtain ⟨_, hb11, hb12, hb13, hb14, hb15, _⟩ := validB_bd hv
        obtain ⟨hc0, hc1, hc2, hc3, hc4, hc5, _⟩ := renew_base HR3.out
        have ha3 : (A3 != a) = false := bne_eq_false_iff_eq.2 ha
        have hq3 : (Q3 != r) = false := bne_eq_false_iff_eq.2 hq
        have HV3 := Lib.hid (Valid_yes A3 S3 E3 Q3 hv)
        have HU3 := Lib.hid (Renewable_yes a s e r now skew hu)
        clear hv hu ha hq
        refine (H3.out _).mono ?_
        rintro _ wa3 ⟨rfl, hxa⟩
        have HXa3 := Lib.hid ((HXa2.out.trans hxa).alloc (.cells #[.int .i64 A3, .int .i64 S3, .int .i64 E3, .int .i64 Q3] 27))
        clear hxa g0 g1 g2 g3 q0 q1 q2 p0 p1
        have HO3 := Lib.hid (show TB (wa3.alloc (.cells #[.int .i64 A3, .int .i64 S3, .int .i64 E3, .int .i64 Q3] 27)) wa3.heap.size A3 S3 E3 Q3 from heap_alloc_new wa3 _)
        obtain ⟨g0, g1, g2, g3⟩ := (HTB.out.ext HXa3.out).cells
        obtain ⟨q0, q1, q2⟩ := (HWB.out.ext HXa3.out).cells
        obtain ⟨p0, p1⟩ := (HLB.out.ext HXa3.out).cells
        obtain ⟨c0, c1, c2, c3⟩ := HO3.out.cells
        go_wp2_with fail
        refine (HV3.out _).mono ?_
        rintro _ wb3 ⟨rfl, hxb⟩
        have HXb3 := Lib.hid (HXa3.out.trans hxb); have HOb3 := Lib.hid (HO3.out.ext hxb)
        clear hxb c0 c1 c2 c3 g0 g1 g2 g3 q0 q1 q2 p0 p1
        obtain ⟨g0, g1, g2, g3⟩ := (HTB.out.ext HXb3.out).cells
        obtain ⟨q0, q1, q2⟩ := (HWB.out.ext HXb3.out).cells
        obtain ⟨p0, p1⟩ := (HLB.out.ext HXb3.out).cells
        obtain ⟨c0, c1, c2, c3⟩ := HOb3.out.cells
        go_wp2_with fail
        refine (HU3.out _).mono ?_
        rintro _ wc3 ⟨rfl, hxc⟩
        have HXc3 := Lib.hid (HXb3.out.trans hxc)
        clear hxc c0 c1 c2 c3 g0 g1 g2 g3 q0 q1 q2 p0 p1
        obtain ⟨g0, g1, g2, g3⟩ := (HTB.out.ext HXc3.out).cells
        obtain ⟨q0, q1, q2⟩ := (HWB.out.ext HXc3.out).cells
        obtain ⟨p0, p1⟩ := (HLB.out.ext HXc3.out).cells
        go_wp2_with fail
        refine (known_at _ (HP.out.ext (HXE.out.trans HXc3.out))).mono ?_
        rintro _ w9 ⟨rfl, hx9⟩
        have HX9 := Lib.hid ((HXE.out.trans HXc3.out).trans hx9)
        clear hx9
        go_wp2
        go_ret
        exact ⟨rfl, HX9.out⟩
      · have hn3 : (er3 == 0) = false := beq_eq_false_iff_ne.2 he3
        clear he3
        refine (H3.out _).mono ?_
        rintro _ wa3 ⟨rfl, hxa⟩
        have HXa3 := Lib.hid ((HXa2.out.trans hxa).alloc (.cells #[.int .i64 A3, .int .i64 S3, .int .i64 E3, .int .i64 Q3] 27))
        clear hxa g0 g1 g2 g3 q0 q1 q2 p0 p1
        have HO3 := Lib.hid (show TB (wa3.alloc (.cells #[.int .i64 A3, .int .i64 S3, .int .i64 E3, .int .i64 Q3] 27)) wa3.heap.size A3 S3 E3 Q3 from heap_alloc_new wa3 _)
        obtain ⟨g0, g1, g2, g3⟩ := (HTB.out.ext HXa3.out).cells
        obtain ⟨q0, q1, q2⟩ := (HWB.out.ext HXa3.out).cells
        obtain ⟨p0, p1⟩ := (HLB.out.ext HXa3.out).cells
        go_wp2_with fail
        refine (known_at _ (HP.out.ext (HXE.out.trans HXa3.out))).mono ?_
        rintro _ w9 ⟨rfl, hx9⟩
        have HX9 := Lib.hid ((HXE.out.trans HXa3.out).trans hx9)
        clear hx9
        go_wp2
        go_ret
        exact ⟨rfl, HX9.out⟩
end Go.Proofs.YtfgmmjpejlpdoaaDoor.lifetimeHolds
