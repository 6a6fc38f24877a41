/- AddressHolds: the law. (wip/tools/genadho.py printed this.) -/
import Derived.Test.YthpfomjibfbiiaaGreatDoorAdD1
import Derived.Test.YthpfomjibfbiiaaGreatDoorAdL2
import Derived.Test.YthpfomjibfbiiaaGreatDoorAdK1
import Derived.Test.YthpfomjibfbiiaaGreatDoorAd9
import Derived.Deep.DeepCutAuto
namespace Go.Proofs.YthpfomjibfbiiaaGreatDoor
open Go Go.RowKit
set_option linter.unusedVariables false

theorem ds_twoH (w : World) (k k' : Int) (a b : List UInt8) (A B : Option Addr) (c d : Nat) (ha : BS w (.slice A a.length c) a) (hb : BS w (.slice B b.length d) b) (W : World) (hW : w.alloc (.cells #[.int .i64 k, .slice A a.length c, .int .i64 k', .slice B b.length d] 25) = W) :
    DS W (.slice (some ⟨w.heap.size, 0, none⟩) 2 2) [(k, a), (k', b)] ∧ Ext w W := by
  have x : Ext w W := hW ▸ (Ext.refl w).alloc _
  refine ⟨⟨_, _, rfl, Nat.le_refl _, by unfold maxLen; decide, fun i hi => ?_⟩, x⟩
  have hg := heap_alloc_new w (.cells #[.int .i64 k, .slice A a.length c, .int .i64 k', .slice B b.length d] 25)
  rw [hW] at hg
  have hc : ∀ j v, #[Value.int .i64 k, .slice A a.length c, .int .i64 k', .slice B b.length d][j]? = some v → W.cell? ⟨w.heap.size, j, none⟩ = some v := fun j v hv => by
    rw [cell_of_row _ w.heap.size j _ _ (0, 0) hg]; exact hv
  have hj : i = 0 ∨ i = 1 := by simp at hi; omega
  rcases hj with rfl | rfl
  · exact ⟨_, A, c, rfl, hc 0 _ rfl, hc 1 _ rfl, ha.ext x⟩
  · exact ⟨_, B, d, rfl, hc 2 _ rfl, hc 3 _ rfl, hb.ext x⟩
theorem txtA_le {k : Int} {b : List UInt8} (h : okA k b = true) : (txtA k b).length ≤ 1000 := by
  rcases okA_kinds h with ⟨rfl, hl⟩ | ⟨rfl, hl⟩ | ⟨rfl, hl, _⟩
  · exact txt4_len hl
  · have := (txt6_len hl).2
    show (txt6 b).length ≤ 1000
    omega
  · show (txtH b).length ≤ 1000
    unfold txtH
    simp
    omega
/-- A network's members stay members of one with fewer bits; and the other way round. -/
theorem net_laws {k k' bits fewer : Int} {a b : List UInt8} (h : netP k a bits k' b = (true, 0)) (h1 : 0 ≤ fewer) (h2 : fewer ≤ bits) : netP k a fewer k' b = (true, 0) ∧ netP k' b bits k a = (true, 0) := by
  unfold netP at h
  split at h
  · cases h
  · next hc =>
    split at h
    · cases h
    · next hb =>
      split at h
      · cases h
      · next hk =>
        have hk : k = k' := Classical.byContradiction hk
        subst hk
        have hn : netN a b bits.toNat = true := by injection h
        have ha : okA k a = true := by cases e : okA k a with | true => rfl | false => exact absurd (.inl e) hc
        have hb' : okA k b = true := by cases e : okA k b with | true => rfl | false => exact absurd (.inr (.inr e)) hc
        have h20 : k ≠ 20 := fun e => hc (.inr (.inl e))
        have hl : a.length = b.length := by
          rcases okA_kinds ha with ⟨e, l1⟩ | ⟨e, l1⟩ | ⟨e, _⟩
          · rcases okA_kinds hb' with ⟨e', l2⟩ | ⟨e', l2⟩ | ⟨e', _⟩ <;> omega
          · rcases okA_kinds hb' with ⟨e', l2⟩ | ⟨e', l2⟩ | ⟨e', _⟩ <;> omega
          · exact absurd e h20
        rw [netN_iff] at hn
        refine ⟨?_, ?_⟩
        · unfold netP
          rw [if_neg hc, if_neg (by omega), if_neg (by simp), (netN_iff a b fewer.toNat).2 (fun i hi => hn i (by omega))]
        · unfold netP
          rw [if_neg (by rintro (e | e | e); exact absurd (hb'.symm.trans e) (by simp); exact h20 e; exact absurd (ha.symm.trans e) (by simp)), if_neg (by omega), if_neg (by simp), (netN_iff b a bits.toNat).2 (fun i hi => (hn i hi).symm)]
/-- What Encode has handed back. -/
def EncR (xs : List (Int × List UInt8)) (p v : Value) (W : World) : Prop := ∃ ev : Int, v = .int .i64 ev ∧ ((vlA xs = true ∧ ev = 0 ∧ ∃ A c, p = .slice A (dataF xs).length c ∧ BS W (.slice A (dataF xs).length c) (dataF xs)) ∨ (vlA xs = false ∧ ev = 2))
/-- What Decode has handed back. -/
def DecR (b : List UInt8) (p v : Value) (W : World) : Prop := ∃ ev : Int, v = .int .i64 ev ∧ ((ev = 0 ∧ ∃ L A c, vlA L = true ∧ b = dataF L ∧ p = .slice A L.length c ∧ DS W (.slice A L.length c) L) ∨ ev = 6)
set_option maxRecDepth 100000 in
set_option maxHeartbeats 8000000 in
theorem lawHo (k : Int) (a : List UInt8) (A : Option Addr) (c : Nat) (k' : Int) (b : List UInt8) (B : Option Addr) (d : Nat) (bits fewer : Int) (LA : Option Addr) (lc : Nat) (xs : List (Int × List UInt8)) (CA : Option Addr) (cc : Nat) (cs : List UInt8) (w : World) (ha : BS w (.slice A a.length c) a) (hb : BS w (.slice B b.length d) b) (hD : DS w (.slice LA xs.length lc) xs) (hC : BS w (.slice CA cs.length cc) cs) (hE : EnvA w) :
    Calls Tryz.prog 5 #[adv k A a.length c, adv k' B b.length d, .int .i64 bits, .int .i64 fewer, .slice LA xs.length lc, .slice CA cs.length cc] w fun e w' => e = .returned (.bool true) ∧ Ext w w' := by
  obtain ⟨W1, e1, h0, x0⟩ := box1A w k A a.length c
  obtain ⟨W2, e2, h1, x1⟩ := box1A W1 k' B b.length d
  have z1 : W1.heap.size = w.heap.size + 1 := by rw [← e1]; simp
  rw [z1] at h1
  have HS := Lib.hid (small_at LA lc xs W2 (hD.ext (x0.trans x1)))
  have HX := Lib.hid (x0.trans x1); have HBA := Lib.hid (h0.ext x1); have HBB := Lib.hid h1; have HZ1 := Lib.hid z1
  have HA := Lib.hid ha; have HB := Lib.hid hb; have HE := Lib.hid hE; have HD := Lib.hid hD; have HC := Lib.hid hC
  clear h0 h1 x0 x1 ha hb hE hD hC z1
  obtain ⟨sm, hsm⟩ : ∃ v, smA xs = v := ⟨_, rfl⟩
  rw [hsm] at HS
  cases sm with
  | false =>
    clear hsm
    unfold adv
    go_enter Tryz.func5, Tryz.ntmps5
    go_wp2_with fail
    refine HS.out.mono ?_
    rintro _ w1 ⟨rfl, hx1⟩
    have HX1 := Lib.hid (HX.out.trans hx1)
    clear hx1
    go_wp2_with fail
    refine (AKnown_at _ (HE.out.ext HX1.out)).mono ?_
    rintro _ wk ⟨rfl, hxk⟩
    have HXK := Lib.hid (HX1.out.trans hxk)
    clear hxk
    go_wp2_with fail
    go_ret
    exact ⟨rfl, HXK.out⟩
  | true =>
  unfold smA at hsm
  rw [Bool.and_eq_true, List.all_eq_true, decide_eq_true_eq] at hsm
  have HXS := Lib.hid (show xs.length ≤ 30 from hsm.2)
  clear hsm
  unfold adv
  go_enter Tryz.func5, Tryz.ntmps5
  go_wp2_with fail
  rw [HZ1.out]
  refine HS.out.mono ?_
  rintro _ w1 ⟨rfl, hx1⟩
  have hx01 := HX.out.trans hx1
  obtain ⟨W3, e3⟩ : ∃ W, w1.alloc (.cells #[.int .i64 k, .slice A a.length c, .int .i64 k', .slice B b.length d] 25) = W := ⟨_, rfl⟩
  have hw3 := ds_twoH w1 k k' a b A B c d (HA.out.ext hx01) (HB.out.ext hx01) W3 e3
  have HS3 := Lib.hid (small_at _ _ [(k, a), (k', b)] W3 hw3.1)
  obtain ⟨p0, p1⟩ := (HBA.out.ext hx1).cells
  obtain ⟨r0, r1⟩ := (HBB.out.ext hx1).cells
  have HX3 := Lib.hid (hx01.trans hw3.2); have HBA3 := Lib.hid (HBA.out.ext (hx1.trans hw3.2)); have HBB3 := Lib.hid (HBB.out.ext (hx1.trans hw3.2))
  obtain ⟨sm, hsm⟩ : ∃ v, smA [(k, a), (k', b)] = v := ⟨_, rfl⟩
  rw [hsm] at HS3
  clear hx1 hx01 hw3 HS HBA HBB e1 e2
  go_wp2_with fail
  refine HS3.out.mono ?_
  rintro _ w4 ⟨rfl, hx4⟩
  have HX4 := Lib.hid (HX3.out.trans hx4); have HBA4 := Lib.hid (HBA3.out.ext hx4); have HBB4 := Lib.hid (HBB3.out.ext hx4)
  clear hx4 p0 p1 r0 r1 e3 HS3 HBA3 HBB3
  cases sm with
  | false =>
    clear hsm
    go_wp2_with fail
    refine (AKnown_at _ (HE.out.ext HX4.out)).mono ?_
    rintro _ wk ⟨rfl, hxk⟩
    have HXK := Lib.hid (HX4.out.trans hxk)
    clear hxk
    go_wp2_with fail
    go_ret
    exact ⟨rfl, HXK.out⟩
  | true =>
  have HLA : Hid (a.length ≤ 40) := Lib.hid (by
    unfold smA at hsm
    rw [Bool.and_eq_true, List.all_eq_true] at hsm
    simpa using hsm.1 (k, a) (by simp))
  clear hsm
  by_cases hc6 : 600 < cs.length
  · have hc6' : 600 < (cs.length : Int) := by omega
    clear hc6
    go_wp2_with fail
    refine (AKnown_at _ (HE.out.ext HX4.out)).mono ?_
    rintro _ wk ⟨rfl, hxk⟩
    have HXK := Lib.hid (HX4.out.trans hxk)
    clear hxk
    go_wp2_with fail
    go_ret
    exact ⟨rfl, HXK.out⟩
  have hc6' : (cs.length : Int) ≤ 600 := by omega
  have HC6 := Lib.hid (show cs.length ≤ 900 by omega)
  clear hc6
  obtain ⟨p0, p1⟩ := HBA4.out.cells
  obtain ⟨va, hva⟩ : ∃ va, okA k a = va := ⟨_, rfl⟩
  have HT := Lib.hid (AText_at k a A c w4 (HA.out.ext HX4.out) (HE.out.ext HX4.out) va hva)
  have HVA := Lib.hid hva
  obtain ⟨ev, hev⟩ : ∃ ev : Int, (if va then (0 : Int) else 2) = ev := ⟨_, rfl⟩
  have hevq : (ev == 0) = va := by rw [← hev]; cases va <;> rfl
  obtain ⟨X, hX⟩ : ∃ X : List UInt8, (if va then txtA k a else []) = X := ⟨_, rfl⟩
  rw [hev, hX] at HT
  have HXX := Lib.hid hX
  unfold adv at HT
  clear hva hev hX
  go_wp2_with fail
  refine HT.out.mono ?_
  rintro _ w5 ⟨rfl, hx5⟩
  have HX5 := Lib.hid (HX4.out.trans hx5); have HBA5 := Lib.hid (HBA4.out.ext hx5); have HBB5 := Lib.hid (HBB4.out.ext hx5)
  clear hx5 p0 p1 HT HBA4 HBB4
  go_wp2_with fail
  refine (numA_at _ _).mono ?_
  rintro _ w5' ⟨rfl, rfl⟩
  go_upto_if 54 with fail
  go_cut [15, 16] (fun _ _ wc => Hid (Ext w5 wc))
  case first =>
    cases va with
    | false =>
      go_wp2_with fail
      go_meet
      case rel => exact Lib.hid (Ext.refl _)
    | true =>
      have hXv : X = txtA k a := by have h := HXX.out; rw [← h]; rfl
      have HPA := Lib.hid (AParse_at ⟨X.toArray⟩ (by rw [hXv]; exact txtA_le HVA.out) w5 (HE.out.ext HX5.out))
      have HPP := Lib.hid (show prsA (ByteArray.mk X.toArray).data.toList = some (k, a) by
        show prsA X.toArray.toList = _
        rw [List.toList_toArray, hXv]; exact prsA_txt HVA.out)
      clear hXv
      go_wp2_with fail
      refine HPA.out.mono ?_
      rintro e w6 ⟨hp, hx6⟩
      obtain ⟨A6, c6, he, hb6⟩ := PAr_yes hp HPP.out
      subst he
      obtain ⟨Y, Z, hY, hZ, hy, hz, hxz⟩ := boxA w6 k A6 a.length c6
      have f0 := hy.soft 0; have f1 := hy.soft 1
      obtain ⟨b0, b1⟩ := hy.cells
      obtain ⟨y0, y1⟩ := hz.cells
      obtain ⟨q0, q1⟩ := (HBA5.out.ext (hx6.trans hxz)).cells
      have HXZ := Lib.hid (hx6.trans hxz)
      have heq := AEqual_at k k a a A6 A c6 c Z (hb6.ext hxz) (HA.out.ext (HX5.out.trans (hx6.trans hxz)))
      rw [show (k == k && a == a) = true by simp] at heq
      have HEQ := Lib.hid heq
      unfold adv at HEQ ⊢
      clear hp hx6 hb6 hy hz hxz heq
      go_wp2_with fail
      refine (numA_at _ _).mono ?_
      rintro _ w7 ⟨rfl, rfl⟩
      go_wp2_with fail
      refine HEQ.out.mono ?_
      rintro _ w8 ⟨rfl, hx8⟩
      have HX8 := Lib.hid (HXZ.out.trans hx8)
      clear hx8
      go_wp2_with fail
      go_meet
      case rel => exact HX8
  case rest =>
  obtain ⟨w6, rfl⟩ : ∃ wo : World, wo = wc := ⟨_, rfl⟩
  have HX6 := Lib.hid (HX5.out.trans hcut.out); have HBA6 := Lib.hid (HBA5.out.ext hcut.out); have HBB6 := Lib.hid (HBB5.out.ext hcut.out)
  clear hcut hevq HXX HVA HBA5 HBB5
  -- the list
  go_upto_region 8 with fail
  go_cut [17, 18] (fun p v wc => EncR xs p v wc ∧ Hid (Ext w6 wc))
  case first =>
    cases hv : vlA xs with
    | true =>
      have HEN := Lib.hid (AEncode_yes LA lc xs w6 (HD.out.ext HX6.out) (HE.out.ext HX6.out) hv)
      have HV := Lib.hid hv
      clear hv
      go_wp2_with fail
      refine HEN.out.mono ?_
      rintro _ w7 ⟨A7, c7, rfl, hb7, hx7⟩
      have HB7 := Lib.hid hb7; have HX7 := Lib.hid hx7
      clear hb7 hx7
      go_wp2_with fail
      go_meet
      case rel => exact ⟨⟨0, rfl, .inl ⟨HV.out, rfl, A7, c7, rfl, HB7.out⟩⟩, HX7⟩
    | false =>
      have HEN := Lib.hid (AEncode_no LA lc xs w6 (HD.out.ext HX6.out) (by have := HXS.out; omega) (HE.out.ext HX6.out) hv)
      have HV := Lib.hid hv
      clear hv
      go_wp2_with fail
      refine HEN.out.mono ?_
      rintro _ w7 ⟨rfl, hx7⟩
      have HX7 := Lib.hid hx7
      clear hx7
      go_wp2_with fail
      go_meet
      case rel => exact ⟨⟨2, rfl, .inr ⟨HV.out, rfl⟩⟩, HX7⟩
  case rest =>
  obtain ⟨⟨ev2, hv18, hER⟩, hxc⟩ := hcut
  subst hv18
  obtain ⟨w7, rfl⟩ : ∃ wo : World, wo = wc := ⟨_, rfl⟩
  have HX7 := Lib.hid (HX6.out.trans hxc.out); have HBA7 := Lib.hid (HBA6.out.ext hxc.out); have HBB7 := Lib.hid (HBB6.out.ext hxc.out); have HER := Lib.hid hER
  clear hxc hER HBA6 HBB6
  go_wp2_with fail
  refine (numA_at _ _).mono ?_
  rintro _ w7' ⟨rfl, rfl⟩
  go_upto_if 76 with fail
  go_cut [19, 20] (fun _ _ wc => Hid (Ext w7 wc))
  case first =>
    rcases HER.out with ⟨hv, rfl, A7, c7, rfl, hb7⟩ | ⟨hv, rfl⟩
    · have HDE := Lib.hid (ADecode_yes A7 c7 (dataF xs) (vl_data hv).2 xs hv rfl w7 hb7 (HE.out.ext HX7.out))
      clear hv hb7 HER
      go_wp2_with fail
      refine HDE.out.mono ?_
      rintro _ w8 ⟨A8, c8, rfl, hd8, hx8⟩
      have HX8 := Lib.hid hx8
      have hsl := SameList_at A8 c8 xs LA lc xs w8 hd8 (HD.out.ext (HX7.out.trans hx8)) (by have := HXS.out; omega) (by have := HXS.out; omega)
      rw [show decide (xs = xs) = true from decide_eq_true rfl] at hsl
      have HSL := Lib.hid hsl
      clear hd8 hx8 hsl
      go_wp2_with fail
      refine (numA_at _ _).mono ?_
      rintro _ w8' ⟨rfl, rfl⟩
      go_wp2_with fail
      refine HSL.out.mono ?_
      rintro _ w9 ⟨rfl, hx9⟩
      have HX9 := Lib.hid (HX8.out.trans hx9)
      clear hx9
      go_wp2_with fail
      go_meet
      case rel => exact HX9
    · go_wp2_with fail
      go_meet
      case rel => exact Lib.hid (Ext.refl _)
  case rest =>
  obtain ⟨w8, rfl⟩ : ∃ wo : World, wo = wc := ⟨_, rfl⟩
  have HX8 := Lib.hid (HX7.out.trans hcut.out); have HBA8 := Lib.hid (HBA7.out.ext hcut.out); have HBB8 := Lib.hid (HBB7.out.ext hcut.out)
  clear hcut HER HBA7 HBB7
  -- the bytes
  go_upto_region 13 with fail
  go_cut [21, 22] (fun p v wc => DecR cs p v wc ∧ Hid (Ext w8 wc))
  case first =>
    by_cases hy : ∃ L, vlA L = true ∧ cs = dataF L
    · obtain ⟨L, hv, hL⟩ := hy
      have HDE := Lib.hid (ADecode_yes CA cc cs HC6.out L hv hL w8 (HC.out.ext HX8.out) (HE.out.ext HX8.out))
      have HV := Lib.hid (And.intro hv hL)
      clear hv hL
      go_wp2_with fail
      refine HDE.out.mono ?_
      rintro _ w9 ⟨A9, c9, rfl, hd9, hx9⟩
      have HD9 := Lib.hid hd9; have HX9 := Lib.hid hx9
      clear hd9 hx9
      go_wp2_with fail
      go_meet
      case rel => exact ⟨⟨0, rfl, .inl ⟨rfl, L, A9, c9, HV.out.1, HV.out.2, rfl, HD9.out⟩⟩, HX9⟩
    · have HDE := Lib.hid (ADecode_no CA cc cs HC6.out (fun L hv e => hy ⟨L, hv, e⟩) w8 (HC.out.ext HX8.out) (HE.out.ext HX8.out))
      clear hy
      go_wp2_with fail
      refine HDE.out.mono ?_
      rintro _ w9 ⟨rfl, hx9⟩
      have HX9 := Lib.hid hx9
      clear hx9
      go_wp2_with fail
      go_meet
      case rel => exact ⟨⟨6, rfl, .inr rfl⟩, HX9⟩
  case rest =>
  obtain ⟨⟨ev3, hv22, hDR⟩, hxc⟩ := hcut
  subst hv22
  obtain ⟨w9, rfl⟩ : ∃ wo : World, wo = wc := ⟨_, rfl⟩
  have HX9 := Lib.hid (HX8.out.trans hxc.out); have HBA9 := Lib.hid (HBA8.out.ext hxc.out); have HBB9 := Lib.hid (HBB8.out.ext hxc.out); have HDR := Lib.hid hDR
  clear hxc hDR HBA8 HBB8
  go_wp2_with fail
  refine (numA_at _ _).mono ?_
  rintro _ w9' ⟨rfl, rfl⟩
  go_upto_if 98 with fail
  go_cut [23, 24] (fun _ _ wc => Hid (Ext w9 wc))
  case first =>
    rcases HDR.out with ⟨rfl, L, A9, c9, hv, hL, rfl, hd9⟩ | rfl
    · have HEN := Lib.hid (AEncode_yes A9 c9 L w9 hd9 (HE.out.ext HX9.out) hv)
      rw [← hL] at HEN
      clear hv hL hd9 HDR
      go_wp2_with fail
      refine HEN.out.mono ?_
      rintro _ w10 ⟨A10, c10, rfl, hb10, hx10⟩
      have hv1 := run_str (P := Tryz.prog) w10 23 9 5 (.slice A10 cs.length c10) cs Tryz.underlying23 Tryz.underlying5 Tryz.underlying9 hb10
      have hv2 := run_str (P := Tryz.prog) w10 23 9 5 (.slice CA cs.length cc) cs Tryz.underlying23 Tryz.underlying5 Tryz.underlying9 (HC.out.ext (HX9.out.trans hx10))
      have HX10 := Lib.hid hx10
      clear hb10 hx10
      go_wp2_with fail
      refine (numA_at _ _).mono ?_
      rintro _ w10' ⟨rfl, rfl⟩
      go_wp2_with fail
      go_meet
      case rel => exact HX10
    · go_wp2_with fail
      go_meet
      case rel => exact Lib.hid (Ext.refl _)
  case rest =>
  obtain ⟨w10, rfl⟩ : ∃ wo : World, wo = wc := ⟨_, rfl⟩
  have HX10 := Lib.hid (HX9.out.trans hcut.out); have HBA10 := Lib.hid (HBA9.out.ext hcut.out); have HBB10 := Lib.hid (HBB9.out.ext hcut.out)
  clear hcut HDR HBA9 HBB9
  obtain ⟨p0, p1⟩ := HBA10.out.cells
  obtain ⟨r0, r1⟩ := HBB10.out.cells
  obtain ⟨P, hP⟩ : ∃ P, netP k a bits k' b = P := ⟨_, rfl⟩
  have HN := Lib.hid (Network_at k a A c bits k' b B d w10 (HA.out.ext HX10.out) (HB.out.ext HX10.out) (HE.out.ext HX10.out))
  have HN2 := Lib.hid (fun W (hx : Ext w10 W) => Network_at k a A c fewer k' b B d W (HA.out.ext (HX10.out.trans hx)) (HB.out.ext (HX10.out.trans hx)) (HE.out.ext (HX10.out.trans hx)))
  have HN3 := Lib.hid (fun W (hx : Ext w10 W) => Network_at k' b B d bits k a A c W (HB.out.ext (HX10.out.trans hx)) (HA.out.ext (HX10.out.trans hx)) (HE.out.ext (HX10.out.trans hx)))
  rw [hP] at HN
  obtain ⟨nv, ne⟩ := P
  dsimp only at HN
  have HPP := Lib.hid hP
  unfold adv at HN HN2 HN3
  clear hP
  go_wp2_with fail
  refine HN.out.mono ?_
  rintro _ w11 ⟨rfl, hx11⟩
  have HX11 := Lib.hid hx11
  have HXA := Lib.hid (HX10.out.trans hx11)
  obtain ⟨p0', p1'⟩ := (HBA10.out.ext hx11).cells
  obtain ⟨r0', r1'⟩ := (HBB10.out.ext hx11).cells
  clear hx11 p0 p1 r0 r1
  by_cases hn0 : ne = 0
  · subst hn0
    cases nv with
    | false =>
      go_wp2_with fail
      refine (numA_at _ _).mono ?_
      rintro _ w12 ⟨rfl, rfl⟩
      go_wp2_with fail
      refine (AKnown_at _ (HE.out.ext HXA.out)).mono ?_
      rintro _ wk ⟨rfl, hxk⟩
      have HXK := Lib.hid (HXA.out.trans hxk)
      clear hxk
      go_wp2_with fail
      go_ret
      exact ⟨rfl, HXK.out⟩
    | true =>
      by_cases hf : fewer < 0
      · go_wp2_with fail
        refine (numA_at _ _).mono ?_
        rintro _ w12 ⟨rfl, rfl⟩
        go_wp2_with fail
        refine (AKnown_at _ (HE.out.ext HXA.out)).mono ?_
        rintro _ wk ⟨rfl, hxk⟩
        have HXK := Lib.hid (HXA.out.trans hxk)
        clear hxk
        go_wp2_with fail
        go_ret
        exact ⟨rfl, HXK.out⟩
      · have hf0 : 0 ≤ fewer := by omega
        by_cases hg : bits < fewer
        · clear hf
          go_wp2_with fail
          refine (numA_at _ _).mono ?_
          rintro _ w12 ⟨rfl, rfl⟩
          go_wp2_with fail
          refine (AKnown_at _ (HE.out.ext HXA.out)).mono ?_
          rintro _ wk ⟨rfl, hxk⟩
          have HXK := Lib.hid (HXA.out.trans hxk)
          clear hxk
          go_wp2_with fail
          go_ret
          exact ⟨rfl, HXK.out⟩
        · have hg0 : fewer ≤ bits := by omega
          obtain ⟨l1, l2⟩ := net_laws HPP.out hf0 hg0
          rw [l1] at HN2
          rw [l2] at HN3
          dsimp only at HN2 HN3
          clear hf hg l1 l2 HPP
          go_wp2_with fail
          refine (numA_at _ _).mono ?_
          rintro _ w12 ⟨rfl, rfl⟩
          go_wp2_with fail
          refine (HN2.out _ HX11.out).mono ?_
          rintro _ w13 ⟨rfl, hx13⟩
          have HX13 := Lib.hid (HX11.out.trans hx13)
          obtain ⟨p0, p1⟩ := (HBA10.out.ext HX13.out).cells
          obtain ⟨r0, r1⟩ := (HBB10.out.ext HX13.out).cells
          clear hx13 p0' p1' r0' r1'
          go_wp2_with fail
          refine (HN3.out _ HX13.out).mono ?_
          rintro _ w14 ⟨rfl, hx14⟩
          have HX14 := Lib.hid (HX10.out.trans (HX13.out.trans hx14))
          clear hx14
          go_wp2_with fail
          refine (numA_at _ _).mono ?_
          rintro _ w15 ⟨rfl, rfl⟩
          go_wp2_with fail
          refine (numA_at _ _).mono ?_
          rintro _ w16 ⟨rfl, rfl⟩
          go_wp2_with fail
          refine (AKnown_at _ (HE.out.ext HX14.out)).mono ?_
          rintro _ wk ⟨rfl, hxk⟩
          have HXK := Lib.hid (HX14.out.trans hxk)
          clear hxk
          go_wp2_with fail
          go_ret
          exact ⟨rfl, HXK.out⟩
  · have hnq : (ne != 0) = true := by rw [bne_iff_ne]; exact hn0
    clear hn0
    go_wp2_with fail
    refine (numA_at _ _).mono ?_
    rintro _ w12 ⟨rfl, rfl⟩
    go_wp2_with fail
    refine (AKnown_at _ (HE.out.ext HXA.out)).mono ?_
    rintro _ wk ⟨rfl, hxk⟩
    have HXK := Lib.hid (HXA.out.trans hxk)
    clear hxk
    go_wp2_with fail
    go_ret
    exact ⟨rfl, HXK.out⟩
end Go.Proofs.YthpfomjibfbiiaaGreatDoor
