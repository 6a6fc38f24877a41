/- PolicyTexts: the law. (wip/tools/genlawpo.py printed this.) -/
import Derived.Test.YtgfjmmdkdhodiaaGreatDoorPoL4
import Derived.Test.YtgfjmmdkdhodiaaGreatDoorRowP
import Derived.Test.YtgfjmmdkdhodiaaGreatDoorPoR8
import Derived.Test.YtgfjmmdkdhodiaaGreatDoorPoR10
namespace Go.Proofs.YtgfjmmdkdhodiaaGreatDoor.policyTexts
open Go Go.RowKit
set_option linter.unusedVariables false
theorem pres_eq {l : List UInt8} {e : Ending} (h : PRes' l e) : ∃ (q : Pol) (no : Int), e = .returned (.tuple #[q.v, .int .i64 no]) := by
  rcases h with ⟨p, _, _, h⟩ | ⟨_, h⟩
  · exact ⟨_, _, h⟩
  · exact ⟨_, _, h⟩
set_option maxRecDepth 100000 in
set_option maxHeartbeats 4000000 in
theorem law_walk (p : Pol) (s : ByteArray) (w : World) (hm : Env w) :
    Calls Tryz.prog 7 #[p.v, .string s] w fun e w' => e = .returned (.bool true) ∧ Ext w w' := by
  have HM := Lib.hid hm; clear hm
  have h0 := heap_alloc_new w (.cells p.cs 23)
  obtain ⟨W1, e1⟩ : ∃ W, w.alloc (.cells p.cs 23) = W := ⟨_, rfl⟩
  have x1 : Ext w W1 := e1 ▸ (Ext.refl w).alloc _
  have z1 : W1.heap.size = w.heap.size + 1 := by rw [← e1]; simp
  rw [e1] at h0
  have hp1 : PL W1 w.heap.size p := h0
  obtain ⟨k0, k1, k2, k3, k4, k5, k6, k7, k8, k9⟩ := hp1.cells
  have HP := Lib.hid hp1; have HX := Lib.hid x1; have HZ1 := Lib.hid z1
  by_cases h60 : 60 < p.nm.size
  · have h60' : (60 : Int) < (p.nm.size : Int) := by omega
    clear h0 hp1 x1 z1 h60
    go_enter Tryz.func7, Tryz.ntmps7
    unfold Pol.v
    unfold Pol.cs at e1
    go_wp2_with fail
    refine (PKnown_at _ (HM.out.ext (HX.out))).mono ?_
    rintro _ wk ⟨rfl, hxk⟩
    have HXk := Lib.hid ((HX.out).trans hxk)
    clear hxk 
    go_wp2_with fail
    go_ret
    exact ⟨rfl, HXk.out⟩
  have h60' : (p.nm.size : Int) ≤ 60 := by omega
  have hs4 : p.nm.size ≤ 4294967280 := by omega
  by_cases h300 : 300 < s.size
  · have h300' : (300 : Int) < (s.size : Int) := by omega
    clear h0 hp1 x1 z1 h60 h300
    go_enter Tryz.func7, Tryz.ntmps7
    unfold Pol.v
    unfold Pol.cs at e1
    go_wp2_with fail
    refine (PKnown_at _ (HM.out.ext (HX.out))).mono ?_
    rintro _ wk ⟨rfl, hxk⟩
    have HXk := Lib.hid ((HX.out).trans hxk)
    clear hxk 
    go_wp2_with fail
    go_ret
    exact ⟨rfl, HXk.out⟩
  have h300' : (s.size : Int) ≤ 300 := by omega
  have HPA := Lib.hid (fun W hW => PoParse_at s (by omega) W hW)
  have HRPA := Lib.hid (fun W => RPoParse_at s (by omega) W)
  have HRV := Lib.hid (RPoValid_at p hs4)
  clear h0 hp1 x1 z1 h60 h300
  cases hok : p.ok with
  | false =>
    have HTX := Lib.hid (PoText_no p hs4 hok)
    rw [hok] at HRV
    clear hok
    go_enter Tryz.func7, Tryz.ntmps7
    unfold Pol.v
    unfold Pol.cs at e1
    go_wp2_with fail
    refine (HTX.out W1).mono ?_
    rintro _ w2 ⟨rfl, hx2⟩
    have HX2 := Lib.hid (HX.out.trans hx2); have HX2A := Lib.hid hx2
    clear k0 k1 k2 k3 k4 k5 k6 k7 k8 k9 e1 hx2
    go_wp2_with fail
    refine (HPA.out w2 (HM.out.ext HX2.out)).mono ?_
    rintro _ w3 ⟨hp3, hx3⟩
    obtain ⟨q, no, rfl⟩ := pres_eq hp3
    have HX3 := Lib.hid (HX2.out.trans hx3); have HP3 := Lib.hid hp3; have HX3A := Lib.hid hx3
    clear hp3 hx3
    have hx := (Ext.refl w3).alloc (.cells Pol.zero.cs 23)
    have h0 : PL (w3.alloc (.cells Pol.zero.cs 23)) w3.heap.size Pol.zero := heap_alloc_new w3 _
    obtain ⟨Y3, hY3⟩ : ∃ W, w3.alloc (.cells Pol.zero.cs 23) = W := ⟨_, rfl⟩
    rw [hY3] at hx h0
    have f0 := h0.soft 0; have f1 := h0.soft 1; have f2 := h0.soft 2; have f3 := h0.soft 3; have f4 := h0.soft 4; have f5 := h0.soft 5; have f6 := h0.soft 6; have f7 := h0.soft 7; have f8 := h0.soft 8; have f9 := h0.soft 9
    obtain ⟨d0, d1, d2, d3, d4, d5, d6, d7, d8, d9⟩ := h0.cells
    obtain ⟨Z3, hZ3, hxF, hpF⟩ := putPL (q := q) hx (Nat.le_refl _) h0
    have HZZ3 := Lib.hid hxF
    have HXZ3 := Lib.hid (HX3.out.trans hxF); have HPZ3 := Lib.hid hpF
    unfold Pol.cs Pol.zero at hY3
    clear hx hxF hpF h0
    unfold Pol.v
    go_wp2_with fail
    refine (HRPA.out _).mono ?_
    rintro _ w4 ⟨hp4, hx4⟩
    obtain rfl := hp4.uniq HP3.out
    have HX4 := Lib.hid (HXZ3.out.trans hx4); have HX4A := Lib.hid hx4; have HPL4 := Lib.hid (HPZ3.out.ext hx4)
    clear hp4 hx4
    clear f0 f1 f2 f3 f4 f5 f6 f7 f8 f9 d0 d1 d2 d3 d4 d5 d6 d7 d8 d9 hY3 hZ3
    have hx := (Ext.refl w4).alloc (.cells Pol.zero.cs 23)
    have h0 : PL (w4.alloc (.cells Pol.zero.cs 23)) w4.heap.size Pol.zero := heap_alloc_new w4 _
    obtain ⟨Y4, hY4⟩ : ∃ W, w4.alloc (.cells Pol.zero.cs 23) = W := ⟨_, rfl⟩
    rw [hY4] at hx h0
    have f0 := h0.soft 0; have f1 := h0.soft 1; have f2 := h0.soft 2; have f3 := h0.soft 3; have f4 := h0.soft 4; have f5 := h0.soft 5; have f6 := h0.soft 6; have f7 := h0.soft 7; have f8 := h0.soft 8; have f9 := h0.soft 9
    obtain ⟨d0, d1, d2, d3, d4, d5, d6, d7, d8, d9⟩ := h0.cells
    obtain ⟨Z4, hZ4, hxF, hpF⟩ := putPL (q := q) hx (Nat.le_refl _) h0
    have HZZ4 := Lib.hid hxF
    have HXZ4 := Lib.hid (HX4.out.trans hxF); have HPZ4 := Lib.hid hpF
    unfold Pol.cs Pol.zero at hY4
    clear hx hxF hpF h0
    unfold Pol.v
    obtain ⟨k0, k1, k2, k3, k4, k5, k6, k7, k8, k9⟩ := (HPL4.out.ext HZZ4.out).cells
    obtain ⟨l0, l1, l2, l3, l4, l5, l6, l7, l8, l9⟩ := HPZ4.out.cells
    go_wp2_with fail
    refine (num_at' _ _).mono ?_
    rintro _ wz ⟨rfl, rfl⟩
    clear f0 f1 f2 f3 f4 f5 f6 f7 f8 f9 d0 d1 d2 d3 d4 d5 d6 d7 d8 d9 hY4 hZ4
    clear k0 k1 k2 k3 k4 k5 k6 k7 k8 k9 l0 l1 l2 l3 l4 l5 l6 l7 l8 l9
    have HPB := Lib.hid (HP.out.ext ((((HX2A.out.trans HX3A.out).trans HZZ3.out).trans HX4A.out).trans HZZ4.out))
    obtain ⟨m0, m1, m2, m3, m4, m5, m6, m7, m8, m9⟩ := HPB.out.cells
    go_wp2_with fail
    refine (HRV.out _).mono ?_
    rintro _ w6 ⟨rfl, hx6⟩
    have HX6 := Lib.hid (HXZ4.out.trans hx6); have HZZ6 := Lib.hid hx6
    clear hx6 m0 m1 m2 m3 m4 m5 m6 m7 m8 m9
    obtain ⟨m0, m1, m2, m3, m4, m5, m6, m7, m8, m9⟩ := (HPB.out.ext HZZ6.out).cells
    go_wp2_with fail
    refine (num_at' _ _).mono ?_
    rintro _ wz ⟨rfl, rfl⟩
    go_wp2_with fail
    refine (PKnown_at _ (HM.out.ext (HX6.out))).mono ?_
    rintro _ wk ⟨rfl, hxk⟩
    have HXk := Lib.hid ((HX6.out).trans hxk)
    clear hxk
    go_wp2_with fail
    go_ret
    exact ⟨rfl, HXk.out⟩
  | true =>
    have HTX := Lib.hid (PoText_at p hok)
    have HRT := Lib.hid (RPoText_at p hok)
    rw [hok] at HRV
    clear hok
    obtain ⟨T, hT⟩ : ∃ T, p.text = T := ⟨_, rfl⟩
    rw [hT] at HTX HRT
    clear hT
    go_enter Tryz.func7, Tryz.ntmps7
    unfold Pol.v
    unfold Pol.cs at e1
    go_wp2_with fail
    refine (HTX.out W1 (HM.out.ext HX.out).pow).mono ?_
    rintro _ w2 ⟨rfl, hx2⟩
    have HX2 := Lib.hid (HX.out.trans hx2); have HX2A := Lib.hid hx2
    clear k0 k1 k2 k3 k4 k5 k6 k7 k8 k9 e1 hx2
    go_wp2_with fail
    refine (HPA.out w2 (HM.out.ext HX2.out)).mono ?_
    rintro _ w3 ⟨hp3, hx3⟩
    obtain ⟨q, no, rfl⟩ := pres_eq hp3
    have HX3 := Lib.hid (HX2.out.trans hx3); have HP3 := Lib.hid hp3; have HX3A := Lib.hid hx3
    clear hp3 hx3
    have hx := (Ext.refl w3).alloc (.cells Pol.zero.cs 23)
    have h0 : PL (w3.alloc (.cells Pol.zero.cs 23)) w3.heap.size Pol.zero := heap_alloc_new w3 _
    obtain ⟨Y3, hY3⟩ : ∃ W, w3.alloc (.cells Pol.zero.cs 23) = W := ⟨_, rfl⟩
    rw [hY3] at hx h0
    have f0 := h0.soft 0; have f1 := h0.soft 1; have f2 := h0.soft 2; have f3 := h0.soft 3; have f4 := h0.soft 4; have f5 := h0.soft 5; have f6 := h0.soft 6; have f7 := h0.soft 7; have f8 := h0.soft 8; have f9 := h0.soft 9
    obtain ⟨d0, d1, d2, d3, d4, d5, d6, d7, d8, d9⟩ := h0.cells
    obtain ⟨Z3, hZ3, hxF, hpF⟩ := putPL (q := q) hx (Nat.le_refl _) h0
    have HZZ3 := Lib.hid hxF
    have HXZ3 := Lib.hid (HX3.out.trans hxF); have HPZ3 := Lib.hid hpF
    unfold Pol.cs Pol.zero at hY3
    clear hx hxF hpF h0
    unfold Pol.v
    go_wp2_with fail
    refine (HRPA.out _).mono ?_
    rintro _ w4 ⟨hp4, hx4⟩
    obtain rfl := hp4.uniq HP3.out
    have HX4 := Lib.hid (HXZ3.out.trans hx4); have HX4A := Lib.hid hx4; have HPL4 := Lib.hid (HPZ3.out.ext hx4)
    clear hp4 hx4
    clear f0 f1 f2 f3 f4 f5 f6 f7 f8 f9 d0 d1 d2 d3 d4 d5 d6 d7 d8 d9 hY3 hZ3
    have hx := (Ext.refl w4).alloc (.cells Pol.zero.cs 23)
    have h0 : PL (w4.alloc (.cells Pol.zero.cs 23)) w4.heap.size Pol.zero := heap_alloc_new w4 _
    obtain ⟨Y4, hY4⟩ : ∃ W, w4.alloc (.cells Pol.zero.cs 23) = W := ⟨_, rfl⟩
    rw [hY4] at hx h0
    have f0 := h0.soft 0; have f1 := h0.soft 1; have f2 := h0.soft 2; have f3 := h0.soft 3; have f4 := h0.soft 4; have f5 := h0.soft 5; have f6 := h0.soft 6; have f7 := h0.soft 7; have f8 := h0.soft 8; have f9 := h0.soft 9
    obtain ⟨d0, d1, d2, d3, d4, d5, d6, d7, d8, d9⟩ := h0.cells
    obtain ⟨Z4, hZ4, hxF, hpF⟩ := putPL (q := q) hx (Nat.le_refl _) h0
    have HZZ4 := Lib.hid hxF
    have HXZ4 := Lib.hid (HX4.out.trans hxF); have HPZ4 := Lib.hid hpF
    unfold Pol.cs Pol.zero at hY4
    clear hx hxF hpF h0
    unfold Pol.v
    obtain ⟨k0, k1, k2, k3, k4, k5, k6, k7, k8, k9⟩ := (HPL4.out.ext HZZ4.out).cells
    obtain ⟨l0, l1, l2, l3, l4, l5, l6, l7, l8, l9⟩ := HPZ4.out.cells
    go_wp2_with fail
    refine (num_at' _ _).mono ?_
    rintro _ wz ⟨rfl, rfl⟩
    clear f0 f1 f2 f3 f4 f5 f6 f7 f8 f9 d0 d1 d2 d3 d4 d5 d6 d7 d8 d9 hY4 hZ4
    clear k0 k1 k2 k3 k4 k5 k6 k7 k8 k9 l0 l1 l2 l3 l4 l5 l6 l7 l8 l9
    have HPB := Lib.hid (HP.out.ext ((((HX2A.out.trans HX3A.out).trans HZZ3.out).trans HX4A.out).trans HZZ4.out))
    obtain ⟨m0, m1, m2, m3, m4, m5, m6, m7, m8, m9⟩ := HPB.out.cells
    go_wp2_with fail
    refine (HRV.out _).mono ?_
    rintro _ w6 ⟨rfl, hx6⟩
    have HX6 := Lib.hid (HXZ4.out.trans hx6); have HZZ6 := Lib.hid hx6
    clear hx6 m0 m1 m2 m3 m4 m5 m6 m7 m8 m9
    obtain ⟨m0, m1, m2, m3, m4, m5, m6, m7, m8, m9⟩ := (HPB.out.ext HZZ6.out).cells
    go_wp2_with fail
    refine (HRT.out _).mono ?_
    rintro _ w7 ⟨rfl, hx7⟩
    have HX7 := Lib.hid (HX6.out.trans hx7)
    clear hx7 m0 m1 m2 m3 m4 m5 m6 m7 m8 m9
    have hTT : (T == T) = true := beq_self_eq_true _
    go_wp2_with fail
    refine (num_at' _ _).mono ?_
    rintro _ wz ⟨rfl, rfl⟩
    go_wp2_with fail
    refine (PKnown_at _ (HM.out.ext (HX7.out))).mono ?_
    rintro _ wk ⟨rfl, hxk⟩
    have HXk := Lib.hid ((HX7.out).trans hxk)
    clear hxk
    go_wp2_with fail
    go_ret
    exact ⟨rfl, HXk.out⟩
theorem law_row (p : Pol) (s : ByteArray) (w : World) (hs : p.nm.size ≤ maxLen) (hm : Env w) :
    Calls Tryz.prog 7 #[p.v, .string s] w fun e w' => e = .returned (.bool true) ∧ Ext w w' := by
  exact law_walk p s w hm
end Go.Proofs.YtgfjmmdkdhodiaaGreatDoor.policyTexts
