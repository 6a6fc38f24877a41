/- Texts laid together (wip/tools/automerge.py): PoR5, LawPoTi. -/
import Derived.Test.YtgfjmmdkdhodiaaGreatDoorMg25
import Derived.Test.YtgfjmmdkdhodiaaGreatDoorPo12
import Derived.WalkLawsBesides
import Derived.Test.YtgfjmmdkdhodiaaGreatDoorPoL4
import Derived.Test.YtgfjmmdkdhodiaaGreatDoorRowP
namespace Go.Proofs.YtgfjmmdkdhodiaaGreatDoor
open Go Go.RowKit
set_option linter.unusedVariables false

set_option maxRecDepth 100000 in
set_option maxHeartbeats 2000000 in
theorem RTimes_at (p : Pol) (hs : p.nm.size ≤ 4294967280) (s : Int) (w : World) :
    Calls Tryz.prog 21 #[p.v, .int .i64 s] w fun e w' => e = .returned (timesV p s) ∧ Ext w w' := by
  have HV := Lib.hid (RPoValid_at p hs)
  have HS := Lib.hid (Rin_at s 0 1099511627776)
  have h0 := heap_alloc_new w (.cells p.cs 23)
  obtain ⟨W1, e1⟩ : ∃ W, w.alloc (.cells p.cs 23) = W := ⟨_, rfl⟩
  have x1 : Ext w W1 := e1 ▸ (Ext.refl w).alloc _
  rw [e1] at h0
  obtain ⟨c0, c1, c2, c3, c4, c5, c6, c7, c8, c9⟩ := PL.cells h0
  have HX := Lib.hid x1; have HP := Lib.hid (show PL W1 w.heap.size p from h0)
  clear h0 x1
  unfold timesV
  cases hok : p.ok with
  | false =>
    rw [hok] at HV
    rw [if_pos rfl]
    clear hok
    go_enter Tryz.func21, Tryz.ntmps21
    unfold Pol.v
    unfold Pol.cs at e1
    go_wp2_with fail
    refine (HV.out W1).mono ?_
    rintro _ w1 ⟨rfl, hx1⟩
    have HX1 := Lib.hid (HX.out.trans hx1)
    clear hx1
    go_wp2_with fail
    go_ret3
    exact ⟨rfl, HX1.out⟩
  | true =>
    rw [hok] at HV
    rw [if_neg (by simp)]
    obtain ⟨b5, b6⟩ : (0 ≤ p.mina ∧ p.mina ≤ 1099511627776) ∧ (0 ≤ p.maxa ∧ p.maxa ≤ 1099511627776) := ⟨((Pol.ok_iff p).1 hok).mina, ((Pol.ok_iff p).1 hok).maxa⟩
    obtain ⟨b5a, b5b⟩ := b5
    obtain ⟨b6a, b6b⟩ := b6
    clear hok
    cases hin : inB s 0 1099511627776 with
    | false =>
      rw [hin] at HS
      rw [if_pos rfl]
      clear hin
      go_enter Tryz.func21, Tryz.ntmps21
      unfold Pol.v
      unfold Pol.cs at e1
      go_wp2_with fail
      refine (HV.out W1).mono ?_
      rintro _ w1 ⟨rfl, hx1⟩
      have HX1 := Lib.hid (HX.out.trans hx1)
      clear hx1
      go_wp2_with fail
      refine (HS.out w1).mono ?_
      rintro _ w2 ⟨rfl, rfl⟩
      go_wp2_with fail
      go_ret3
      exact ⟨rfl, HX1.out⟩
    | true =>
      rw [hin] at HS
      rw [if_neg (by simp)]
      obtain ⟨s0, s1⟩ : 0 ≤ s ∧ s ≤ 1099511627776 := by
        unfold inB at hin
        simp only [Bool.and_eq_true, decide_eq_true_eq] at hin
        exact hin
      clear hin
      by_cases hz : p.maxa = 0
      · have qz : (p.maxa != 0) = false := by rw [bne_eq_false_iff_eq]; exact hz
        have qy : ¬ 0 < p.maxa := by omega
        rw [if_pos hz]
        clear hz
        go_enter Tryz.func21, Tryz.ntmps21
        unfold Pol.v
        unfold Pol.cs at e1
        go_wp2_with fail
        refine (HV.out W1).mono ?_
        rintro _ w1 ⟨rfl, hx1⟩
        obtain ⟨k0, k1, k2, k3, k4, k5, k6, k7, k8, k9⟩ := (HP.out.ext hx1).cells
        have HX1 := Lib.hid (HX.out.trans hx1)
        clear hx1
        go_wp2_with fail
        refine (HS.out w1).mono ?_
        rintro _ w2 ⟨rfl, rfl⟩
        go_wp2_with fail
        all_goals
          go_ret3
          exact ⟨by first | exact ret3 (by omega) (by omega) | rfl, HX1.out⟩
      · have qz : (p.maxa != 0) = true := by rw [bne_iff_ne]; exact hz
        have qy : 0 < p.maxa := by omega
        rw [if_neg hz]
        clear hz
        go_enter Tryz.func21, Tryz.ntmps21
        unfold Pol.v
        unfold Pol.cs at e1
        go_wp2_with fail
        refine (HV.out W1).mono ?_
        rintro _ w1 ⟨rfl, hx1⟩
        obtain ⟨k0, k1, k2, k3, k4, k5, k6, k7, k8, k9⟩ := (HP.out.ext hx1).cells
        have HX1 := Lib.hid (HX.out.trans hx1)
        clear hx1
        go_wp2_with fail
        refine (HS.out w1).mono ?_
        rintro _ w2 ⟨rfl, rfl⟩
        go_wp2_with fail
        all_goals
          go_ret3
          exact ⟨by first | exact ret3 (by omega) (by omega) | rfl, HX1.out⟩
end Go.Proofs.YtgfjmmdkdhodiaaGreatDoor
namespace Go.Proofs.YtgfjmmdkdhodiaaGreatDoor.policyTimes
open Go Go.RowKit
set_option linter.unusedVariables false
theorem timesV_eq (p : Pol) (s : Int) : ∃ x y e : Int, timesV p s = .tuple #[.int .i64 x, .int .i64 y, .int .i64 e] := by
  unfold timesV
  split
  · exact ⟨_, _, _, rfl⟩
  · split
    · exact ⟨_, _, _, rfl⟩
    · split
      · exact ⟨_, _, _, rfl⟩
      · exact ⟨_, _, _, rfl⟩
set_option maxRecDepth 100000 in
set_option maxHeartbeats 4000000 in
theorem law_walk (p : Pol) (s : Int) (w : World) (hm : Env w) :
    Calls Tryz.prog 6 #[p.v, .int .i64 s] w fun e w' => e = .returned (.bool true) ∧ Ext w w' := by
  have HM := Lib.hid hm; clear hm
  have h0 := heap_alloc_new w (.cells p.cs 23)
  obtain ⟨W1, e1⟩ : ∃ W, w.alloc (.cells p.cs 23) = W := ⟨_, rfl⟩
  have x1 : Ext w W1 := e1 ▸ (Ext.refl w).alloc _
  have z1 : W1.heap.size = w.heap.size + 1 := by rw [← e1]; simp
  rw [e1] at h0
  have hp1 : PL W1 w.heap.size p := h0
  obtain ⟨k0, k1, k2, k3, k4, k5, k6, k7, k8, k9⟩ := hp1.cells
  have HP := Lib.hid hp1; have HX := Lib.hid x1; have HZ1 := Lib.hid z1
  by_cases h60 : 60 < p.nm.size
  · have h60' : (60 : Int) < (p.nm.size : Int) := by omega
    clear h0 hp1 x1 z1 h60
    go_enter Tryz.func6, Tryz.ntmps6
    unfold Pol.v
    unfold Pol.cs at e1
    go_wp2_with fail
    refine (PKnown_at _ (HM.out.ext (HX.out))).mono ?_
    rintro _ wk ⟨rfl, hxk⟩
    have HXk := Lib.hid ((HX.out).trans hxk)
    clear hxk 
    go_wp2_with fail
    go_ret
    exact ⟨rfl, HXk.out⟩
  have h60' : (p.nm.size : Int) ≤ 60 := by omega
  have hs4 : p.nm.size ≤ 4294967280 := by omega
  obtain ⟨x, y, e, ht⟩ := timesV_eq p s
  have HT := Lib.hid (fun W => ht ▸ Times_at p hs4 s W)
  have HRT := Lib.hid (fun W => ht ▸ RTimes_at p hs4 s W)
  clear h0 hp1 x1 z1 h60 ht
  go_enter Tryz.func6, Tryz.ntmps6
  unfold Pol.v
  unfold Pol.cs at e1
  go_wp2_with fail
  refine (HT.out _).mono ?_
  rintro _ w2 ⟨rfl, hx2⟩
  have HX2 := Lib.hid (HX.out.trans hx2)
  clear k0 k1 k2 k3 k4 k5 k6 k7 k8 k9 e1
  obtain ⟨k0, k1, k2, k3, k4, k5, k6, k7, k8, k9⟩ := (HP.out.ext hx2).cells
  clear hx2
  go_wp2_with fail
  refine (HRT.out _).mono ?_
  rintro _ w3 ⟨rfl, hx3⟩
  have HX3 := Lib.hid (HX2.out.trans hx3)
  clear hx3 k0 k1 k2 k3 k4 k5 k6 k7 k8 k9
  have q1 : (x == x) = true := beq_self_eq_true _
  have q2 : (y == y) = true := beq_self_eq_true _
  have q3 : (e == e) = true := beq_self_eq_true _
  go_wp2_with fail
  refine (num_at' _ _).mono ?_
  rintro _ wz ⟨rfl, rfl⟩
  go_wp2_with fail
  refine (PKnown_at _ (HM.out.ext (HX3.out))).mono ?_
  rintro _ wk ⟨rfl, hxk⟩
  have HXk := Lib.hid ((HX3.out).trans hxk)
  clear hxk
  go_wp2_with fail
  go_ret
  exact ⟨rfl, HXk.out⟩
theorem law_row (p : Pol) (s : Int) (w : World) (hs : p.nm.size ≤ maxLen) (hm : Env w) :
    Calls Tryz.prog 6 #[p.v, .int .i64 s] w fun e w' => e = .returned (.bool true) ∧ Ext w w' := by
  exact law_walk p s w hm
end Go.Proofs.YtgfjmmdkdhodiaaGreatDoor.policyTimes
