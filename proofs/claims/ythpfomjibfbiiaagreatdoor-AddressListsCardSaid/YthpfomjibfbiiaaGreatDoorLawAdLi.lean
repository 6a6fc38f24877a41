/- AddressLists: the law. (wip/tools/genadli.py printed this.) -/
import Derived.Test.YthpfomjibfbiiaaGreatDoorAdE1
import Derived.Test.YthpfomjibfbiiaaGreatDoorAdUZ
import Derived.Test.YthpfomjibfbiiaaGreatDoorAdL2
import Derived.Test.YthpfomjibfbiiaaGreatDoorAdZb
import Derived.Deep.DeepCutAuto
namespace Go.Proofs.YthpfomjibfbiiaaGreatDoor
open Go Go.RowKit
set_option linter.unusedVariables false

/-- A list of one. -/
theorem ds_one (w : World) (k : Int) (a : List UInt8) (A : Option Addr) (c : Nat) (ha : BS w (.slice A a.length c) a) (W : World) (hW : w.alloc (.cells #[.int .i64 k, .slice A a.length c] 25) = W) :
    DS W (.slice (some ⟨w.heap.size, 0, none⟩) 1 1) [(k, a)] ∧ Ext w W := by
  have x : Ext w W := hW ▸ (Ext.refl w).alloc _
  refine ⟨⟨_, _, rfl, Nat.le_refl _, by unfold maxLen; decide, fun i hi => ?_⟩, x⟩
  have hg := heap_alloc_new w (.cells #[.int .i64 k, .slice A a.length c] 25)
  rw [hW] at hg
  have hc : ∀ j v, #[Value.int .i64 k, .slice A a.length c][j]? = some v → W.cell? ⟨w.heap.size, j, none⟩ = some v := fun j v hv => by
    rw [cell_of_row _ w.heap.size j _ _ (0, 0) hg]; exact hv
  obtain rfl : i = 0 := by simp at hi; omega
  exact ⟨_, A, c, rfl, hc 0 _ rfl, hc 1 _ rfl, ha.ext x⟩
/-- What lies there while the law's own list is written. -/
def KL (w w2 w3 : World) (own : Value) (n : Nat) (W : World) : Prop := (∀ k o, w2.heap.size ≤ k → w3.heap[k]? = some o → W.heap[k]? = some o) ∧ Ext w W ∧ OwnX W w.heap.size w2.heap.size own n
theorem KL.set {w w2 w3 : World} {own : Value} {n : Nat} {W W' : World} {g : Nat} (h : KL w w2 w3 own n W) (hg : W.grownBy W' (some g)) (h1 : w.heap.size ≤ g) (h2 : g < w2.heap.size) (ho : OwnX W' w.heap.size w2.heap.size own n) : KL w w2 w3 own n W' :=
  ⟨fun k o hk hi => heap_far hg (h.1 k o hk hi) (by omega), h.2.1.grown hg (fun j hj => by injection hj with hj; omega), ho⟩
set_option maxRecDepth 100000 in
set_option maxHeartbeats 4000000 in
theorem lawLi (A : Option Addr) (c : Nat) (xs : List (Int × List UInt8)) (k0 : Int) (b0 : List UInt8) (B0 : Option Addr) (d0 : Nat) (w : World) (hD : DS w (.slice A xs.length c) xs) (hb : BS w (.slice B0 b0.length d0) b0) (hE : EnvA w) :
    Calls Tryz.prog 3 #[.slice A xs.length c, adv k0 B0 b0.length d0] w fun e w' => e = .returned (.bool true) ∧ Ext w w' := by
  obtain ⟨W1, e1, h1, x1⟩ := box1A w k0 B0 b0.length d0
  have HS := Lib.hid (small_at A c xs W1 (hD.ext x1))
  have HE := Lib.hid hE; have HDD := Lib.hid hD; have HBB := Lib.hid hb; have HAB := Lib.hid h1; have HX := Lib.hid x1
  clear h1 x1 hb hE
  cases hs : smA xs with
  | false =>
    rw [hs] at HS
    clear hs hD
    unfold adv
    go_enter Tryz.func3, Tryz.ntmps3
    go_wp2_with fail
    refine HS.out.mono ?_
    rintro _ w1 ⟨rfl, hx1⟩
    have HX1 := Lib.hid (HX.out.trans hx1)
    clear hx1
    go_wp2_with fail
    refine (AKnown_at _ (HE.out.ext HX1.out)).mono ?_
    rintro _ wk ⟨rfl, hxk⟩
    have HXK := Lib.hid (HX1.out.trans hxk)
    clear hxk
    go_wp2_with fail
    go_ret
    exact ⟨rfl, HXK.out⟩
  | true =>
    rw [hs] at HS
    unfold smA at hs
    rw [Bool.and_eq_true, List.all_eq_true, decide_eq_true_eq] at hs
    obtain ⟨hs1, hs2⟩ := hs
    have HL40 := Lib.hid (show ∀ x ∈ xs, x.2.length ≤ 40 from fun x hx => by simpa using hs1 x hx)
    obtain ⟨n, hn'⟩ : ∃ n, xs.length = n := ⟨_, rfl⟩
    rw [hn'] at hs2 HS ⊢
    have HN := Lib.hid hn'
    clear hn' hs1 hD
    unfold adv
    go_enter Tryz.func3, Tryz.ntmps3
    go_wp2_with fail
    refine HS.out.mono ?_
    rintro _ w1 ⟨rfl, hx1⟩
    obtain ⟨W3, e3⟩ : ∃ W, w1.alloc (.cells #[.int .i64 k0, .slice B0 b0.length d0] 25) = W := ⟨_, rfl⟩
    have hw3 := ds_one w1 k0 b0 B0 d0 (HBB.out.ext (HX.out.trans hx1)) W3 e3
    have HS3 := Lib.hid (small_at _ _ [(k0, b0)] W3 hw3.1)
    obtain ⟨c0, c1⟩ := (HAB.out.ext hx1).cells
    have HX3 := Lib.hid ((HX.out.trans hx1).trans hw3.2); have HAB3 := Lib.hid (HAB.out.ext (hx1.trans hw3.2))
    obtain ⟨sm, hsm⟩ : ∃ v, smA [(k0, b0)] = v := ⟨_, rfl⟩
    rw [hsm] at HS3
    clear hx1 hw3 hsm HS HAB
    go_wp2_with fail
    refine HS3.out.mono ?_
    rintro _ w4 ⟨rfl, hx4⟩
    have HX4 := Lib.hid (HX3.out.trans hx4); have HAB4 := Lib.hid (HAB3.out.ext hx4)
    clear hx4 c0 c1 e1 e3 HS3 HAB3
    cases sm with
    | false =>
      go_wp2_with fail
      refine (AKnown_at _ (HE.out.ext HX4.out)).mono ?_
      rintro _ wk ⟨rfl, hxk⟩
      have HXK := Lib.hid (HX4.out.trans hxk)
      clear hxk
      go_wp2_with fail
      go_ret
      exact ⟨rfl, HXK.out⟩
    | true =>
      obtain ⟨q0, q1⟩ := HAB4.out.cells
      have HRC := Lib.hid (RAContains_at A c xs k0 b0 B0 d0 w4 (HDD.out.ext HX4.out) (HBB.out.ext HX4.out) (by rw [HN.out]; omega))
      have HAC := Lib.hid (fun W (hx : Ext w4 W) => AContains_at A c xs k0 b0 B0 d0 W (HDD.out.ext (HX4.out.trans hx)) (HBB.out.ext (HX4.out.trans hx)) (by rw [HN.out]; omega))
      have HAL := Lib.hid (fun W (hx : Ext w4 W) => AAllows_at A c xs k0 b0 B0 d0 W (HDD.out.ext (HX4.out.trans hx)) (HBB.out.ext (HX4.out.trans hx)) (by rw [HN.out]; omega))
      have HVL := Lib.hid (fun W (hx : Ext w4 W) => AValidList_at A c xs W (HDD.out.ext (HX4.out.trans hx)) (by rw [HN.out]; omega) (HE.out.ext (HX4.out.trans hx)))
      have HRV := Lib.hid (fun W (hx : Ext w4 W) => RAValidList_at A c xs W (HDD.out.ext (HX4.out.trans hx)) (by rw [HN.out]; omega))
      rw [HN.out] at HRC HAC HAL HVL HRV
      generalize hasA xs k0 b0 = q at HRC HAC HAL
      generalize vlA xs = vv at HVL HRV
      obtain ⟨z, hz⟩ : ∃ z, (n == 0) = z := ⟨_, rfl⟩
      have hzi : ((n : Int) == 0) = z := by rw [← hz, Bool.eq_iff_iff, beq_iff_eq, beq_iff_eq]; omega
      rw [hz] at HAL
      have hvv : (vv != vv) = false := by simp
      unfold adv at HRC HAC HAL
      clear hz
      go_wp2_with fail
      refine HRC.out.mono ?_
      rintro _ w5 ⟨rfl, hx5⟩
      have HX45 := Lib.hid hx5
      have HAB5 := Lib.hid (HAB4.out.ext hx5)
      clear hx5 q0 q1 HRC
      go_upto_region 4 with fail
      go_cut [46] (fun v wc => v = .bool false ∧ Hid (Ext w4 wc))
      case first =>
        cases q with
        | true =>
          obtain ⟨q0, q1⟩ := HAB5.out.cells
          go_wp2_with fail
          refine (HAC.out _ HX45.out).mono ?_
          rintro _ w6 ⟨rfl, hx6⟩
          have HX6 := Lib.hid (HX45.out.trans hx6)
          obtain ⟨p0, p1⟩ := (HAB5.out.ext hx6).cells
          rw [Bool.or_true] at HAL
          clear hx6
          go_wp2_with fail
          refine (HAL.out _ HX6.out).mono ?_
          rintro _ w7 ⟨rfl, hx7⟩
          have HX7 := Lib.hid (HX6.out.trans hx7)
          clear hx7
          go_wp2_with fail
          refine (HVL.out _ HX7.out).mono ?_
          rintro _ w8 ⟨rfl, hx8⟩
          have HX8 := Lib.hid (HX7.out.trans hx8)
          clear hx8
          go_wp2_with fail
          refine (HRV.out _ HX8.out).mono ?_
          rintro _ w9 ⟨rfl, hx9⟩
          have HX9 := Lib.hid (HX8.out.trans hx9)
          clear hx9
          go_wp2_with fail
          go_meet
          case rel => exact ⟨rfl, HX9⟩
        | false =>
          rw [Bool.or_false] at HAL
          have hzz : (z != z) = false := by simp
          obtain ⟨q0, q1⟩ := HAB5.out.cells
          go_wp2_with fail
          refine (HAC.out _ HX45.out).mono ?_
          rintro _ w6 ⟨rfl, hx6⟩
          have HX6 := Lib.hid (HX45.out.trans hx6)
          obtain ⟨p0, p1⟩ := (HAB5.out.ext hx6).cells
          clear hx6
          go_wp2_with fail
          refine (HAL.out _ HX6.out).mono ?_
          rintro _ w7 ⟨rfl, hx7⟩
          have HX7 := Lib.hid (HX6.out.trans hx7)
          clear hx7
          go_wp2_with fail
          refine (HVL.out _ HX7.out).mono ?_
          rintro _ w8 ⟨rfl, hx8⟩
          have HX8 := Lib.hid (HX7.out.trans hx8)
          clear hx8
          go_wp2_with fail
          refine (HRV.out _ HX8.out).mono ?_
          rintro _ w9 ⟨rfl, hx9⟩
          have HX9 := Lib.hid (HX8.out.trans hx9)
          clear hx9
          go_wp2_with fail
          go_meet
          case rel => exact ⟨rfl, HX9⟩
      case rest =>
      obtain ⟨rfl, HXC⟩ := hcut
      obtain ⟨w9, rfl⟩ : ∃ wo : World, wo = wc := ⟨_, rfl⟩
      have HX9 := Lib.hid (HX4.out.trans HXC.out)
      have HCA := Lib.hid (Copy_at A c xs w9 (HDD.out.ext HX9.out) (by rw [HN.out]; omega) (fun x hx => by have := HL40.out x hx; omega))
      have HCB := Lib.hid (fun W (hx : Ext w9 W) => Copy_at A c xs W (HDD.out.ext (HX9.out.trans hx)) (by rw [HN.out]; omega) (fun x hx => by have := HL40.out x hx; omega))
      rw [HN.out] at HCA HCB
      clear HAC HAL HVL HRV hzi hvv HAB4 HAB5 HX45 HXC
      go_wp2_with fail
      refine HCA.out.mono ?_
      rintro _ w10 ⟨V1, rfl, hv1, hx10⟩
      have HV1 := Lib.hid hv1; have HX10 := Lib.hid hx10
      clear hv1 hx10
      go_wp2_with fail
      refine (HCB.out _ HX10.out).mono ?_
      rintro _ w11 ⟨V2, rfl, hv2, hx11⟩
      obtain ⟨A1, c1, rfl⟩ := HV1.out.shape
      obtain ⟨A2, c2, rfl⟩ := hv2.shape
      have HV2 := Lib.hid hv2; have HX11 := Lib.hid hx11
      have HXW := Lib.hid ((HX9.out.trans HX10.out).trans hx11)
      have HSL := Lib.hid (SameList_at A1 c1 xs A c xs w11 (HV1.out.ds.ext hx11) (HDD.out.ext HXW.out) (by rw [HN.out]; omega) (by rw [HN.out]; omega))
      rw [HN.out, show decide (xs = xs) = true from decide_eq_true rfl] at HSL
      have HK0 := Lib.hid (show KL w w10 w11 (.slice A1 n c1) n w11 from ⟨fun _ _ _ h => h, HXW.out, by
        have h := OwnX.of_aov (HV1.out.down HX9.out.size) (Nat.le_refl _) HL40.out
        rw [HN.out] at h
        exact h.ext hx11⟩)
      rw [HN.out]
      clear hv2 hx11 HCA HCB
      go_wp2_with fail
      refine HSL.out.mono ?_
      rintro _ w12 ⟨rfl, hx12⟩
      have HK := Lib.hid (show KL w w10 w12 (.slice A1 n c1) n w12 from ⟨fun _ _ _ h => h, HK0.out.2.1.trans hx12, HK0.out.2.2.ext hx12⟩)
      have HX1112 := Lib.hid hx12
      clear hx12 HK0 HSL
      go_wp2_with fail
      go_loopw [8] (fun i wl => ∃ q : Nat, i = .int .i64 (q : Int) ∧ q ≤ n ∧ Hid (KL w w10 w12 (.slice A1 n c1) n wl)) (fun i _ => n - (intOf i).toNat)
      case atStart => exact ⟨0, rfl, by omega, HK⟩
      case round =>
        obtain ⟨q, rfl, hq, HKq⟩ := hrel
        obtain ⟨wl, rfl⟩ : ∃ wo : World, wo = wr := ⟨_, rfl⟩
        by_cases hqk : q < n
        · obtain ⟨g, rfl, hg1, hg2⟩ := HKq.out.2.2.shape (by omega)
          obtain ⟨x, _, m, cb, AB', p0, p1, p2, hm40, hgr, hnew⟩ := HKq.out.2.2.at_ q hqk
          have HP2 := Lib.hid p2
          clear hgr hnew p0 p1 p2
          go_wp2_with fail
          go_loopw [9] (fun i wq => ∃ j : Nat, i = .int .i64 (j : Int) ∧ j ≤ m ∧ Hid (KL w w10 w12 (.slice (some ⟨g, 0, none⟩) n c1) n wq) ∧ Hid (wq.cell? ⟨g, q * 2 + 1, none⟩ = some (.slice AB' m cb))) (fun i _ => m - (intOf i).toNat)
          case atStart => exact ⟨0, rfl, by omega, HKq, HP2⟩
          case round =>
            obtain ⟨j, rfl, hj', HKJ, HPJ⟩ := hrel
            have p2 := HPJ.out
            by_cases hjm : j < m
            · obtain ⟨gb, zz, rfl, hb1, hb2, z0, z1, hgz, hoz, hpz⟩ := HKJ.out.2.2.byte2 q hqk HPJ.out j hjm
              have HKZ := Lib.hid (HKJ.out.set hgz hb1 hb2 hoz); have HPZ := Lib.hid hpz
              clear hgz hoz hpz
              go_wp2_with fail
              go_roundw
              case rel => exact ⟨j + 1, by go_num, by omega, HKZ, HPZ⟩
              case measure => simp [intOf]; omega
            · have hjm' : (m : Int) ≤ (j : Int) := by omega
              obtain ⟨x, _, m2, cb2, AB2, r0, r1, r2, _, hgr, hnew⟩ := HKJ.out.2.2.at_ q hqk
              obtain ⟨y, hy⟩ : ∃ y, wrap64 (x + 1) = y := ⟨_, rfl⟩
              have HKN := Lib.hid (show KL w w10 w12 (.slice (some ⟨g, 0, none⟩) n c1) n (wr.setCell ⟨g, q * 2, none⟩ (.int .i64 y)) from HKJ.out.set (grown_set (grown_refl wr _) (q * 2) _) hg1 hg2 (hnew y).1)
              clear hgr hnew r2
              go_wp2_with fail
              go_roundw
              case rel => exact ⟨q + 1, by go_num, by omega, HKN⟩
              case measure => simp [intOf]; omega
        · have hqk' : (n : Int) ≤ (q : Int) := by omega
          have HSL := Lib.hid (SameList_at A2 c2 xs A c xs wl (((HV2.out.ext HX1112.out).keep (fun k' o hB ho => HKq.out.1 k' o hB ho)).ds) (HDD.out.ext HKq.out.2.1) (by rw [HN.out]; omega) (by rw [HN.out]; omega))
          rw [HN.out, show decide (xs = xs) = true from decide_eq_true rfl] at HSL
          have HXL := Lib.hid HKq.out.2.1
          go_wp2_with fail
          refine HSL.out.mono ?_
          rintro _ w13 ⟨rfl, hx13⟩
          have HX13 := Lib.hid (HXL.out.trans hx13)
          clear hx13
          go_wp2_with fail
          refine (AKnown_at _ (HE.out.ext HX13.out)).mono ?_
          rintro _ wk ⟨rfl, hxk⟩
          have HXK := Lib.hid (HX13.out.trans hxk)
          clear hxk
          go_wp2_with fail
          go_ret
          exact ⟨rfl, HXK.out⟩
end Go.Proofs.YthpfomjibfbiiaaGreatDoor
